/-
 The functions that the law reaches, told as plain functions.
-/
import Derived.Test.YtfopcfnggdonkaaGreatDoorLLM
import Derived.Test.YtfopcfnggdonkaaGreatDoorWCM
namespace Go.Proofs.YtfopcfnggdonkaaGreatDoor
open Go.Proofs.Tryz
open Go.RowKit
set_option linter.unusedVariables false
noncomputable section
abbrev kN : DT := .pair (.int .i64) (.pair (.sl (.sl (.int .i64))) (.unit))
abbrev oD := Int -> Int -> Int -> Option (Bool)
abbrev mD := Int -> (List (aG)) -> Option (Bool × List (aG))
abbrev vP := List (aG)
abbrev CZ := (List Int) -> (List (aG)) -> Option (Int × List (aG))
abbrev rE := (List Int) -> (List (aG)) -> Option (Bool × List (aG))
abbrev UM := (aG) -> Option (Int)
abbrev C9 := (List Int) -> Option (Int)
abbrev mG := (List Int) -> Int -> Option (Int)
abbrev sO := (aG) -> (List Int) -> Int -> Option (Int)
abbrev mJ := (aG) -> Int -> Option (Int ⊕ ((List Int) ⊕ Unit))
abbrev mF := Int -> Int -> Option (Int)
abbrev wR := Int -> Int -> Option (Bool)
abbrev sN := Int -> Option (List Int)
abbrev wS := Int -> (Int ⊕ ((List Int) ⊕ Unit)) -> Option (Int)
abbrev UL := (aG) -> (List Int) -> Option (Int)
def alN : Env := dD TI TY [] aY aW
def aqL : Code := dB Tryz.f195
def ayI : Nat -> Option Norm := dH []
def ar5 : End := ⟨[], ⟨[9], [], [], []⟩⟩
def abV (l : List TV) (o : List (Nat × TO)) : Option (Int) := match l, o with | [.dv (.int .i64) x0], [] => some (x0) | _, _ => none
def Rh (N : Nat) (dY : List Int) (lG : Int) : Option (Int) :=
   chk (decide (0 <= lG /\ lG < (dY.length : Int))) (some (dY.getD lG.toNat 0))
theorem aw3 (N : Nat) (dY : List Int) (lG : Int) : bK (alN) ayI N ar5 aqL (bC Tryz.f195) 7 [.dv (.sl (.int .i64)) dY, .dv (.int .i64) lG] [] abV = Rh N dY lG := by kernel_rfl
theorem aAE (a : (List Int) -> Int -> Option (Int)) (h : ∀ dY lG r, a dY lG = some r -> (∃ N, Rh N dY lG = some r)) : aC prog 195 (EW a) := by
 intro args Of x hx
 simp only [EW] at hx
 split at hx
 ·rename_i dY lG
  obtain ⟨N, hN⟩ := h _ _ _ hx
  refine dS func195 (by kernel_rfl) (by kernel_rfl) rfl dQ ((aw3 N _ _).trans hN) fun l o hd => ?_
  simp only [abV] at hd
  split at hd
  ·obtain rfl := aB hd; exact ⟨rfl, rfl⟩
  ·cases hd
 ·cases hx
def E58 : Env := dD TI TY [] aY aW
def c58 : Code := dB Tryz.f58
def ayT : Nat -> Option Norm := dH []
def asG : End := ⟨[], ⟨[15], [], [], []⟩⟩
def ab7 (l : List TV) (o : List (Nat × TO)) : Option (Bool) := match l, o with | [.dv (.bool) x0], [] => some (x0) | _, _ => none
def Ru (N : Nat) (eF : Int) (n1 : Int) (hi2 : Int) : Option (Bool) :=
   cond (decide (eF <= n1)) (some (decide (n1 <= hi2)))
   (some false)
theorem k58 (N : Nat) (eF : Int) (n1 : Int) (hi2 : Int) : bK (E58) ayT N asG c58 (bC Tryz.f58) 12 [.dv (.int .i64) eF, .dv (.int .i64) n1, .dv (.int .i64) hi2] [] ab7 = Ru N eF n1 hi2 := by kernel_rfl
theorem aAX (a : Int -> Int -> Int -> Option (Bool)) (h : ∀ eF n1 hi2 r, a eF n1 hi2 = some r -> (∃ N, Ru N eF n1 hi2 = some r)) : aC prog 58 (AL a) := by
 intro args Of x hx
 simp only [AL] at hx
 split at hx
 ·rename_i eF n1 hi2
  obtain ⟨N, hN⟩ := h _ _ _ _ hx
  refine dS func58 (by kernel_rfl) (by kernel_rfl) rfl dQ ((k58 N _ _ _).trans hN) fun l o hd => ?_
  simp only [ab7] at hd
  split at hd
  ·obtain rfl := aB hd; exact ⟨rfl, rfl⟩
  ·cases hd
 ·cases hx
def alR (D : oD) : Env := dD TI TY [(58, AL D)] aY aW
def aqP : Code := dB Tryz.f57
def ayS : Nat -> Option Norm := dH []
def asF : End := ⟨[], ⟨[11], [9000], [], []⟩⟩
def ab6 (l : List TV) (o : List (Nat × TO)) : Option (Bool × List (aG)) := match l, o with | [.dv (.bool) x0], [(9000, .row (.pair (.int .i64) (.pair (.sl (.sl (.int .i64))) (.unit))) x1)] => some (x0, x1) | _, _ => none
def Rt (D : oD) (N : Nat) (i0 : Int) (p1 : List (aG)) : Option (Bool × List (aG)) :=
   (D (0 : Int) i0 (aH (((((p1.getD 0 ((0 : Int), (([] : LL), ()))).2).1).length : Int) - (1 : Int)))).bind fun r1 =>
   some (!r1, p1)
theorem aw9 (D : oD) (N : Nat) (i0 : Int) (p1 : List (aG)) : bK (alR D) ayS N asF aqP (bC Tryz.f57) 9 [.dv (.int .i64) i0, .ptr 9000 0 []] [(9000, .row kN p1)] ab6 = Rt D N i0 p1 := by kernel_rfl
theorem aAW (D : oD) (PS : aC prog 58 (AL D)) (a : Int -> (List (aG)) -> Option (Bool × List (aG))) (h : ∀ i0 p1 r, a i0 p1 = some r -> (∃ N, Rt D N i0 p1 = some r)) : aC prog 57 (JQ a) := by
 intro args Of x hx
 simp only [JQ] at hx
 split at hx
 ·rename_i i0 p1
  obtain ⟨N, hN⟩ := h _ _ _ hx
  refine dS func57 (by kernel_rfl) (by kernel_rfl) rfl (dK PS dQ) ((aw9 D N _ _).trans hN) fun l o hd => ?_
  simp only [ab6] at hd
  split at hd
  ·obtain rfl := aB hd; exact ⟨rfl, rfl⟩
  ·cases hd
 ·cases hx
def TN (J : mD) : Env := dD TI TY [(57, JQ J)] aY aW
def YL : Code := dB Tryz.f78
def agI : Norm := ⟨[0, 1, 7, 8], [9000], [], []⟩
def Cc : Nat -> Option Norm := dH [(2, agI)]
def Le : End := ⟨[], ⟨[19], [9000], [], []⟩⟩
def ZE (l : List TV) (o : List (Nat × TO)) : Option (Int × List (aG)) := match l, o with | [.dv (.int .i64) x0], [(9000, .row (.pair (.int .i64) (.pair (.sl (.sl (.int .i64))) (.unit))) x1)] => some (x0, x1) | _, _ => none
def XA (s0 : List Int) (bG : Int) (kE : vP) : TS := ⟨slots 19 [(0, .dv (.sl (.int .i64)) s0), (1, .fn 57 0 1 fun i => ([.ptr 9000 0 []] : List TV).getD i .any), (7, .dv (.int .i64) (s0.length : Int)), (8, .dv (.int .i64) bG)], [(9000, .row kN kE)]⟩
def aoD (J : mD) (N : Nat) : dC (Int × List (aG)) := fG (TN J) Cc N YL [1, 0, 1, 0] (fin TI Le (bC Tryz.f78) ZE)
def VY (J : mD) (N : Nat) (m : Nat) : TS -> Option (Int × List (aG)) := eX (den (TN J) Cc N (sub YL [1, 0, 1, 0, 0])) (TS.norm agI) (aoD J N) m
def X0 (J : mD) (s0 : List Int) (F0 : Int -> (List (aG)) -> Option (Int × List (aG))) (bG : Int) (kE : vP) : Option (Int × List (aG)) :=
   cond (decide (bG < (s0.length : Int))) (chk (decide (0 <= bG /\ bG < (s0.length : Int))) ((J (s0.getD bG.toNat 0) kE).bind fun r1 =>
   cond (r1.1) (some (bG, r1.2))
   ((F0 (aH (bG + 1)) r1.2))))
   (some ((-1 : Int), kE))
def G7 (J : mD) (N : Nat) (s0 : List Int) : Nat -> Int -> (List (aG)) -> Option (Int × List (aG))
 | 0, _, _ => none
 | n + 1, bG, kE => X0 J s0 (G7 J N s0 n) bG kE
theorem aHH (J : mD) (N : Nat) (s0 : List Int) (m : Nat) (bG : Int) (kE : vP) : VY J N (m + 1) (XA s0 bG kE) = X0 J s0 (fun y0 y1 => (VY J N m (XA s0 y0 y1))) bG kE := by kernel_rfl
theorem aiU (J : mD) (N : Nat) (s0 : List Int) : ∀ (m : Nat) (bG : Int) (kE : vP), VY J N m (XA s0 bG kE) = G7 J N s0 m bG kE
        | 0, _, _ => rfl
        | m + 1, bG, kE => by rw [aHH]; simp only [G7, aiU J N s0 m]
def Dz (J : mD) (N : Nat) (s0 : List Int) (p1 : List (aG)) : Option (Int × List (aG)) :=
   (G7 J N s0 N (0 : Int) p1)
theorem aH7 (J : mD) (N : Nat) (s0 : List Int) (p1 : List (aG)) : bK (TN J) Cc N Le YL (bC Tryz.f78) 17 [.dv (.sl (.int .i64)) s0, .fn 57 0 1 fun i => ([.ptr 9000 0 []] : List TV).getD i .any] [(9000, .row kN p1)] ZE = (VY J N N (XA s0 (0 : Int) p1)) := by kernel_rfl
theorem aw' (J : mD) (N : Nat) (s0 : List Int) (p1 : List (aG)) : bK (TN J) Cc N Le YL (bC Tryz.f78) 17 [.dv (.sl (.int .i64)) s0, .fn 57 0 1 fun i => ([.ptr 9000 0 []] : List TV).getD i .any] [(9000, .row kN p1)] ZE = Dz J N s0 p1 := by rw [aH7]; simp only [Dz, aiU]
theorem aA3 (J : mD) (au2 : aC prog 57 (JQ J)) (a : (List Int) -> (List (aG)) -> Option (Int × List (aG))) (h : ∀ s0 p1 r, a s0 p1 = some r -> (∃ N, Dz J N s0 p1 = some r)) : aC prog 78 (JR a) := by
 intro args Of x hx
 simp only [JR] at hx
 split at hx
 ·rename_i s0 KH p1 uP
  have hc0 := congrArg (fun c : List (List TV) => c.getD 0 []) uP
  obtain ⟨N, hN⟩ := h _ _ _ hx
  refine jM.FV (args := [.dv (.sl (.int .i64)) s0, .fn 57 0 1 fun i => ([.ptr 9000 0 []] : List TV).getD i .any]) (O := [(9000, .row kN p1)]) ⟨TV.sG _, TV.IP hc0, trivial⟩ ⟨rfl, TO.sG _, trivial⟩ (lifted (L := [(57, JQ J)]) (rc := aY) (fz := aW) (fn := Tryz.f78) (by kernel_rfl) (by kernel_rfl) (by kernel_rfl) (by kernel_rfl) rfl ?_ ((aw' J N _ _).trans hN) ?_)
  ·intro p hp; simp only [List.mem_cons, List.not_mem_nil, or_false] at hp; rcases hp with rfl; exact au2
  ·intro l o hd
   simp only [ZE] at hd
   split at hd
   ·obtain rfl := aB hd; exact ⟨rfl, rfl⟩
   ·cases hd
 ·cases hx
def alO (U : CZ) : Env := dD TI TY [(78, JR U)] aY aW
def aqM : Code := dB Tryz.f45
def ayO : Nat -> Option Norm := dH []
def asA : End := ⟨[], ⟨[9], [9000], [], []⟩⟩
def ab2 (l : List TV) (o : List (Nat × TO)) : Option (Bool × List (aG)) := match l, o with | [.dv (.bool) x0], [(9000, .row (.pair (.int .i64) (.pair (.sl (.sl (.int .i64))) (.unit))) x1)] => some (x0, x1) | _, _ => none
def Rn (U : CZ) (N : Nat) (s0 : List Int) (p1 : List (aG)) : Option (Bool × List (aG)) :=
   (U s0 p1).bind fun r1 =>
   some (decide (r1.1 >= (0 : Int)), r1.2)
theorem aw4 (U : CZ) (N : Nat) (s0 : List Int) (p1 : List (aG)) : bK (alO U) ayO N asA aqM (bC Tryz.f45) 7 [.dv (.sl (.int .i64)) s0, .fn 57 0 1 fun i => ([.ptr 9000 0 []] : List TV).getD i .any] [(9000, .row kN p1)] ab2 = Rn U N s0 p1 := by kernel_rfl
theorem aAP (U : CZ) (au3 : aC prog 78 (JR U)) (a : (List Int) -> (List (aG)) -> Option (Bool × List (aG))) (h : ∀ s0 p1 r, a s0 p1 = some r -> (∃ N, Rn U N s0 p1 = some r)) : aC prog 45 (NS a) := by
 intro args Of x hx
 simp only [NS] at hx
 split at hx
 ·rename_i s0 KH p1 uP
  have hc0 := congrArg (fun c : List (List TV) => c.getD 0 []) uP
  obtain ⟨N, hN⟩ := h _ _ _ hx
  refine jM.FV (args := [.dv (.sl (.int .i64)) s0, .fn 57 0 1 fun i => ([.ptr 9000 0 []] : List TV).getD i .any]) (O := [(9000, .row kN p1)]) ⟨TV.sG _, TV.IP hc0, trivial⟩ ⟨rfl, TO.sG _, trivial⟩ (lifted (L := [(78, JR U)]) (rc := aY) (fz := aW) (fn := Tryz.f45) (by kernel_rfl) (by kernel_rfl) (by kernel_rfl) (by kernel_rfl) rfl ?_ ((aw4 U N _ _).trans hN) ?_)
  ·intro p hp; simp only [List.mem_cons, List.not_mem_nil, or_false] at hp; rcases hp with rfl; exact au3
  ·intro l o hd
   simp only [ab2] at hd
   split at hd
   ·obtain rfl := aB hd; exact ⟨rfl, rfl⟩
   ·cases hd
 ·cases hx
def alS (D : oD) : Env := dD TI TY [(58, AL D)] aY aW
def aqQ : Code := dB Tryz.f90
def ayX : Nat -> Option Norm := dH []
def asK : End := ⟨[], ⟨[10], [9000], [], []⟩⟩
def acD (l : List TV) (o : List (Nat × TO)) : Option (Bool × List (aG)) := match l, o with | [.dv (.bool) x0], [(9000, .row (.pair (.int .i64) (.pair (.sl (.sl (.int .i64))) (.unit))) x1)] => some (x0, x1) | _, _ => none
def Ry (D : oD) (N : Nat) (dY : Int) (p1 : List (aG)) : Option (Bool × List (aG)) :=
   (D (0 : Int) dY (aH (((p1.getD 0 ((0 : Int), (([] : LL), ()))).1) - (1 : Int)))).bind fun r1 =>
   some (!r1, p1)
theorem axC (D : oD) (N : Nat) (dY : Int) (p1 : List (aG)) : bK (alS D) ayX N asK aqQ (bC Tryz.f90) 8 [.dv (.int .i64) dY, .ptr 9000 0 []] [(9000, .row kN p1)] acD = Ry D N dY p1 := by kernel_rfl
theorem aA6 (D : oD) (PS : aC prog 58 (AL D)) (a : Int -> (List (aG)) -> Option (Bool × List (aG))) (h : ∀ dY p1 r, a dY p1 = some r -> (∃ N, Ry D N dY p1 = some r)) : aC prog 90 (JV a) := by
 intro args Of x hx
 simp only [JV] at hx
 split at hx
 ·rename_i dY p1
  obtain ⟨N, hN⟩ := h _ _ _ hx
  refine dS func90 (by kernel_rfl) (by kernel_rfl) rfl (dK PS dQ) ((axC D N _ _).trans hN) fun l o hd => ?_
  simp only [acD] at hd
  split at hd
  ·obtain rfl := aB hd; exact ⟨rfl, rfl⟩
  ·cases hd
 ·cases hx
def TP (K : mD) : Env := dD TI TY [(90, JV K)] aY aW
def YM : Code := dB Tryz.f78
def agJ : Norm := ⟨[0, 1, 7, 8], [9000], [], []⟩
def Ce : Nat -> Option Norm := dH [(2, agJ)]
def Lh : End := ⟨[], ⟨[19], [9000], [], []⟩⟩
def ZF (l : List TV) (o : List (Nat × TO)) : Option (Int × List (aG)) := match l, o with | [.dv (.int .i64) x0], [(9000, .row (.pair (.int .i64) (.pair (.sl (.sl (.int .i64))) (.unit))) x1)] => some (x0, x1) | _, _ => none
def XB (s0 : List Int) (bG : Int) (kE : vP) : TS := ⟨slots 19 [(0, .dv (.sl (.int .i64)) s0), (1, .fn 90 0 1 fun i => ([.ptr 9000 0 []] : List TV).getD i .any), (7, .dv (.int .i64) (s0.length : Int)), (8, .dv (.int .i64) bG)], [(9000, .row kN kE)]⟩
def aoE (K : mD) (N : Nat) : dC (Int × List (aG)) := fG (TP K) Ce N YM [1, 0, 1, 0] (fin TI Lh (bC Tryz.f78) ZF)
def VZ (K : mD) (N : Nat) (m : Nat) : TS -> Option (Int × List (aG)) := eX (den (TP K) Ce N (sub YM [1, 0, 1, 0, 0])) (TS.norm agJ) (aoE K N) m
def X3 (K : mD) (s0 : List Int) (F0 : Int -> (List (aG)) -> Option (Int × List (aG))) (bG : Int) (kE : vP) : Option (Int × List (aG)) :=
   cond (decide (bG < (s0.length : Int))) (chk (decide (0 <= bG /\ bG < (s0.length : Int))) ((K (s0.getD bG.toNat 0) kE).bind fun r1 =>
   cond (r1.1) (some (bG, r1.2))
   ((F0 (aH (bG + 1)) r1.2))))
   (some ((-1 : Int), kE))
def G8 (K : mD) (N : Nat) (s0 : List Int) : Nat -> Int -> (List (aG)) -> Option (Int × List (aG))
 | 0, _, _ => none
 | n + 1, bG, kE => X3 K s0 (G8 K N s0 n) bG kE
theorem aHI (K : mD) (N : Nat) (s0 : List Int) (m : Nat) (bG : Int) (kE : vP) : VZ K N (m + 1) (XB s0 bG kE) = X3 K s0 (fun y0 y1 => (VZ K N m (XB s0 y0 y1))) bG kE := by kernel_rfl
theorem aiV (K : mD) (N : Nat) (s0 : List Int) : ∀ (m : Nat) (bG : Int) (kE : vP), VZ K N m (XB s0 bG kE) = G8 K N s0 m bG kE
        | 0, _, _ => rfl
        | m + 1, bG, kE => by rw [aHI]; simp only [G8, aiV K N s0 m]
def Ea (K : mD) (N : Nat) (s0 : List Int) (p1 : List (aG)) : Option (Int × List (aG)) :=
   (G8 K N s0 N (0 : Int) p1)
theorem aH8 (K : mD) (N : Nat) (s0 : List Int) (p1 : List (aG)) : bK (TP K) Ce N Lh YM (bC Tryz.f78) 17 [.dv (.sl (.int .i64)) s0, .fn 90 0 1 fun i => ([.ptr 9000 0 []] : List TV).getD i .any] [(9000, .row kN p1)] ZF = (VZ K N N (XB s0 (0 : Int) p1)) := by kernel_rfl
theorem axA (K : mD) (N : Nat) (s0 : List Int) (p1 : List (aG)) : bK (TP K) Ce N Lh YM (bC Tryz.f78) 17 [.dv (.sl (.int .i64)) s0, .fn 90 0 1 fun i => ([.ptr 9000 0 []] : List TV).getD i .any] [(9000, .row kN p1)] ZF = Ea K N s0 p1 := by rw [aH8]; simp only [Ea, aiV]
theorem aA4 (K : mD) (au6 : aC prog 90 (JV K)) (a : (List Int) -> (List (aG)) -> Option (Int × List (aG))) (h : ∀ s0 p1 r, a s0 p1 = some r -> (∃ N, Ea K N s0 p1 = some r)) : aC prog 78 (JS a) := by
 intro args Of x hx
 simp only [JS] at hx
 split at hx
 ·rename_i s0 KH p1 uP
  have hc0 := congrArg (fun c : List (List TV) => c.getD 0 []) uP
  obtain ⟨N, hN⟩ := h _ _ _ hx
  refine jM.FV (args := [.dv (.sl (.int .i64)) s0, .fn 90 0 1 fun i => ([.ptr 9000 0 []] : List TV).getD i .any]) (O := [(9000, .row kN p1)]) ⟨TV.sG _, TV.IP hc0, trivial⟩ ⟨rfl, TO.sG _, trivial⟩ (lifted (L := [(90, JV K)]) (rc := aY) (fz := aW) (fn := Tryz.f78) (by kernel_rfl) (by kernel_rfl) (by kernel_rfl) (by kernel_rfl) rfl ?_ ((axA K N _ _).trans hN) ?_)
  ·intro p hp; simp only [List.mem_cons, List.not_mem_nil, or_false] at hp; rcases hp with rfl; exact au6
  ·intro l o hd
   simp only [ZF] at hd
   split at hd
   ·obtain rfl := aB hd; exact ⟨rfl, rfl⟩
   ·cases hd
 ·cases hx
def alP (V : CZ) : Env := dD TI TY [(78, JS V)] aY aW
def aqN : Code := dB Tryz.f45
def ayP : Nat -> Option Norm := dH []
def asB : End := ⟨[], ⟨[9], [9000], [], []⟩⟩
def ab3 (l : List TV) (o : List (Nat × TO)) : Option (Bool × List (aG)) := match l, o with | [.dv (.bool) x0], [(9000, .row (.pair (.int .i64) (.pair (.sl (.sl (.int .i64))) (.unit))) x1)] => some (x0, x1) | _, _ => none
def Ro (V : CZ) (N : Nat) (s0 : List Int) (p1 : List (aG)) : Option (Bool × List (aG)) :=
   (V s0 p1).bind fun r1 =>
   some (decide (r1.1 >= (0 : Int)), r1.2)
theorem aw5 (V : CZ) (N : Nat) (s0 : List Int) (p1 : List (aG)) : bK (alP V) ayP N asB aqN (bC Tryz.f45) 7 [.dv (.sl (.int .i64)) s0, .fn 90 0 1 fun i => ([.ptr 9000 0 []] : List TV).getD i .any] [(9000, .row kN p1)] ab3 = Ro V N s0 p1 := by kernel_rfl
theorem aAQ (V : CZ) (au4 : aC prog 78 (JS V)) (a : (List Int) -> (List (aG)) -> Option (Bool × List (aG))) (h : ∀ s0 p1 r, a s0 p1 = some r -> (∃ N, Ro V N s0 p1 = some r)) : aC prog 45 (NT a) := by
 intro args Of x hx
 simp only [NT] at hx
 split at hx
 ·rename_i s0 KH p1 uP
  have hc0 := congrArg (fun c : List (List TV) => c.getD 0 []) uP
  obtain ⟨N, hN⟩ := h _ _ _ hx
  refine jM.FV (args := [.dv (.sl (.int .i64)) s0, .fn 90 0 1 fun i => ([.ptr 9000 0 []] : List TV).getD i .any]) (O := [(9000, .row kN p1)]) ⟨TV.sG _, TV.IP hc0, trivial⟩ ⟨rfl, TO.sG _, trivial⟩ (lifted (L := [(78, JS V)]) (rc := aY) (fz := aW) (fn := Tryz.f45) (by kernel_rfl) (by kernel_rfl) (by kernel_rfl) (by kernel_rfl) rfl ?_ ((aw5 V N _ _).trans hN) ?_)
  ·intro p hp; simp only [List.mem_cons, List.not_mem_nil, or_false] at hp; rcases hp with rfl; exact au4
  ·intro l o hd
   simp only [ab3] at hd
   split at hd
   ·obtain rfl := aB hd; exact ⟨rfl, rfl⟩
   ·cases hd
 ·cases hx
def TG (M : rE) (D : oD) : Env := dD TI TY [(45, NT M), (58, AL D)] aY aW
def YH : Code := dB Tryz.f56
def agB : Norm := ⟨[1, 21, 22, 23], [1], [], []⟩
def Bl : Nat -> Option Norm := dH [(8, agB)]
def Kv : End := ⟨[], ⟨[38], [], [], []⟩⟩
def Y6 (l : List TV) (o : List (Nat × TO)) : Option (Int) := match l, o with | [.dv (.int .i64) x0], [] => some (x0) | _, _ => none
def WU (p0 : aG) (pW : Int) (uY : vP) : TS := ⟨slots 38 [(1, .ptr 1 0 []), (21, .dv (.sl (.sl (.int .i64))) p0.2.1), (22, .dv (.int .i64) (p0.2.1.length : Int)), (23, .dv (.int .i64) pW)], [(1, .row kN uY)]⟩
def an7 (M : rE) (D : oD) (N : Nat) : dC (Int) := fG (TG M D) Bl N YH [1, 1, 0, 1, 0] (fin TI Kv (bC Tryz.f56) Y6)
def VO (M : rE) (D : oD) (N : Nat) (m : Nat) : TS -> Option (Int) := eX (den (TG M D) Bl N (sub YH [1, 1, 0, 1, 0, 0])) (TS.norm agB) (an7 M D N) m
def XV (M : rE) (p0 : aG) (F0 : Int -> (List (aG)) -> Option (Int)) (pW : Int) (uY : vP) : Option (Int) :=
   cond (decide (pW < (p0.2.1.length : Int))) (chk (decide (0 <= pW /\ pW < (p0.2.1.length : Int))) (cond (((p0.2.1.getD pW.toNat ([] : List Int)).length : Int) != ((uY.getD 0 ((0 : Int), (([] : LL), ()))).1)) (some (3 : Int))
   ((M (p0.2.1.getD pW.toNat ([] : List Int)) uY).bind fun r2 =>
   cond (r2.1) (some (4 : Int))
   ((F0 (aH (pW + 1)) r2.2)))))
   (some (0 : Int))
def GX (M : rE) (D : oD) (N : Nat) (p0 : aG) : Nat -> Int -> (List (aG)) -> Option (Int)
 | 0, _, _ => none
 | n + 1, pW, uY => XV M p0 (GX M D N p0 n) pW uY
theorem aG' (M : rE) (D : oD) (N : Nat) (p0 : aG) (m : Nat) (pW : Int) (uY : vP) : VO M D N (m + 1) (WU p0 pW uY) = XV M p0 (fun y0 y1 => (VO M D N m (WU p0 y0 y1))) pW uY := by kernel_rfl
theorem aiM (M : rE) (D : oD) (N : Nat) (p0 : aG) : ∀ (m : Nat) (pW : Int) (uY : vP), VO M D N m (WU p0 pW uY) = GX M D N p0 m pW uY
        | 0, _, _ => rfl
        | m + 1, pW, uY => by rw [aG']; simp only [GX, aiM M D N p0 m]
def Du (M : rE) (D : oD) (N : Nat) (p0 : aG) : Option (Int) :=
   (D (2 : Int) p0.1 (7 : Int)).bind fun r1 =>
   cond (!r1) (some (4 : Int))
   (cond ((p0.2.1.length : Int) == (0 : Int)) (some (1 : Int))
   (cond (decide ((p0.2.1.length : Int) > (6 : Int))) (some (2 : Int))
   ((GX M D N p0 N (0 : Int) ([p0] : List (aG))))))
theorem aH2 (M : rE) (D : oD) (N : Nat) (p0 : aG) : bK (TG M D) Bl N Kv YH (bC Tryz.f56) 37 [.dv kN p0] [] Y6 = (D (2 : Int) p0.1 (7 : Int)).bind fun r1 =>
   cond (!r1) (some (4 : Int))
   (cond ((p0.2.1.length : Int) == (0 : Int)) (some (1 : Int))
   (cond (decide ((p0.2.1.length : Int) > (6 : Int))) (some (2 : Int))
   ((VO M D N N (WU p0 (0 : Int) ([p0] : List (aG))))))) := by kernel_rfl
theorem k56 (M : rE) (D : oD) (N : Nat) (p0 : aG) : bK (TG M D) Bl N Kv YH (bC Tryz.f56) 37 [.dv kN p0] [] Y6 = Du M D N p0 := by rw [aH2]; simp only [Du, aiM]
theorem aAV (M : rE) (D : oD) (auZ : aC prog 45 (NT M)) (PS : aC prog 58 (AL D)) (a : (aG) -> Option (Int)) (h : ∀ p0 r, a p0 = some r -> (∃ N, Du M D N p0 = some r)) : aC prog 56 (NW a) := by
 intro args Of x hx
 simp only [NW] at hx
 split at hx
 ·rename_i p0
  obtain ⟨N, hN⟩ := h _ _ hx
  refine dS func56 (by kernel_rfl) (by kernel_rfl) rfl (dK auZ (dK PS dQ)) ((k56 M D N _).trans hN) fun l o hd => ?_
  simp only [Y6] at hd
  split at hd
  ·obtain rfl := aB hd; exact ⟨rfl, rfl⟩
  ·cases hd
 ·cases hx
def E25 (W : rE) (X : UM) : Env := dD TI TY [(45, NS W), (56, NW X)] aY aW
def c25 : Code := dB Tryz.f25
def ayK : Nat -> Option Norm := dH []
def ar7 : End := ⟨[], ⟨[23], [], [], []⟩⟩
def abX (l : List TV) (o : List (Nat × TO)) : Option (Int) := match l, o with | [.dv (.int .i64) x0], [] => some (x0) | _, _ => none
def Ri (W : rE) (X : UM) (N : Nat) (p0 : aG) (xX : List Int) (gQ : Int) : Option (Int) :=
   (X p0).bind fun r1 =>
   cond (r1 != (0 : Int)) (some r1)
   (cond (decide ((xX.length : Int) > gQ)) (some (2 : Int))
   ((W xX ([p0] : List (aG))).bind fun r2 =>
   cond (r2.1) (some (5 : Int))
   (some (0 : Int))))
theorem k25 (W : rE) (X : UM) (N : Nat) (p0 : aG) (xX : List Int) (gQ : Int) : bK (E25 W X) ayK N ar7 c25 (bC Tryz.f25) 20 [.dv kN p0, .dv (.sl (.int .i64)) xX, .dv (.int .i64) gQ] [] abX = Ri W X N p0 xX gQ := by kernel_rfl
theorem aAI (W : rE) (X : UM) (auY : aC prog 45 (NS W)) (h56 : aC prog 56 (NW X)) (a : (aG) -> (List Int) -> Int -> Option (Int)) (h : ∀ p0 xX gQ r, a p0 xX gQ = some r -> (∃ N, Ri W X N p0 xX gQ = some r)) : aC prog 25 (EX a) := by
 intro args Of x hx
 simp only [EX] at hx
 split at hx
 ·rename_i p0 xX gQ
  obtain ⟨N, hN⟩ := h _ _ _ _ hx
  refine dS func25 (by kernel_rfl) (by kernel_rfl) rfl (dK auY (dK h56 dQ)) ((k25 W X N _ _ _).trans hN) fun l o hd => ?_
  simp only [abX] at hd
  split at hd
  ·obtain rfl := aB hd; exact ⟨rfl, rfl⟩
  ·cases hd
 ·cases hx
def TJ : Env := dD TI TY [] aY aW
def c59 : Code := dB Tryz.f59
def agC : Norm := ⟨[0, 3, 4], [], [], []⟩
def Bo : Nat -> Option Norm := dH [(5, agC)]
def Kw : End := ⟨[], ⟨[25], [], [], []⟩⟩
def Y7 (l : List TV) (o : List (Nat × TO)) : Option (Int) := match l, o with | [.dv (.int .i64) x0], [] => some (x0) | _, _ => none
def WV (x0 : List Int) (kD : Int) (jA : Int) : TS := ⟨slots 25 [(0, .dv (.sl (.int .i64)) x0), (3, .dv (.int .i64) kD), (4, .dv (.int .i64) jA)], []⟩
def an8 (N : Nat) : dC (Int) := fG (TJ) Bo N c59 [1, 1, 1, 0, 1, 0] (fin TI Kw (bC Tryz.f59) Y7)
def VQ (N : Nat) (m : Nat) : TS -> Option (Int) := eX (den (TJ) Bo N (sub c59 [1, 1, 1, 0, 1, 0, 0])) (TS.norm agC) (an8 N) m
def XW (x0 : List Int) (F0 : Int -> Int -> Option (Int)) (kD : Int) (jA : Int) : Option (Int) :=
   cond (decide (jA < (x0.length : Int))) (chk (decide (0 <= jA /\ jA < (x0.length : Int))) ((F0 (imax kD (x0.getD jA.toNat 0)) (aH (jA + 1)))))
   (some kD)
def GY (N : Nat) (x0 : List Int) : Nat -> Int -> Int -> Option (Int)
 | 0, _, _ => none
 | n + 1, kD, jA => XW x0 (GY N x0 n) kD jA
theorem aHA (N : Nat) (x0 : List Int) (m : Nat) (kD : Int) (jA : Int) : VQ N (m + 1) (WV x0 kD jA) = XW x0 (fun y0 y1 => (VQ N m (WV x0 y0 y1))) kD jA := by kernel_rfl
theorem aiN (N : Nat) (x0 : List Int) : ∀ (m : Nat) (kD : Int) (jA : Int), VQ N m (WV x0 kD jA) = GY N x0 m kD jA
        | 0, _, _ => rfl
        | m + 1, kD, jA => by rw [aHA]; simp only [GY, aiN N x0 m]
def Dv (N : Nat) (x0 : List Int) : Option (Int) :=
   cond (decide ((x0.length : Int) < (1 : Int))) (none)
   (chk (decide (0 <= (0 : Int) /\ (0 : Int) < (x0.length : Int))) ((GY N x0 N (x0.getD 0 (0 : Int)) (1 : Int))))
theorem aH3 (N : Nat) (x0 : List Int) : bK (TJ) Bo N Kw c59 (bC Tryz.f59) 24 [.dv (.sl (.int .i64)) x0] [] Y7 = cond (decide ((x0.length : Int) < (1 : Int))) (none)
   (chk (decide (0 <= (0 : Int) /\ (0 : Int) < (x0.length : Int))) ((VQ N N (WV x0 (x0.getD 0 (0 : Int)) (1 : Int))))) := by kernel_rfl
theorem k59 (N : Nat) (x0 : List Int) : bK (TJ) Bo N Kw c59 (bC Tryz.f59) 24 [.dv (.sl (.int .i64)) x0] [] Y7 = Dv N x0 := by rw [aH3]; simp only [Dv, aiN]
theorem aAY (a : (List Int) -> Option (Int)) (h : ∀ x0 r, a x0 = some r -> (∃ N, Dv N x0 = some r)) : aC prog 59 (NY a) := by
 intro args Of x hx
 simp only [NY] at hx
 split at hx
 ·rename_i x0
  obtain ⟨N, hN⟩ := h _ _ hx
  refine dS func59 (by kernel_rfl) (by kernel_rfl) rfl dQ ((k59 N _).trans hN) fun l o hd => ?_
  simp only [Y7] at hd
  split at hd
  ·obtain rfl := aB hd; exact ⟨rfl, rfl⟩
  ·cases hd
 ·cases hx
def TK : Env := dD TI TY [] aY aW
def YI : Code := dB Tryz.f60
def agE : Norm := ⟨[0, 3, 4], [], [], []⟩
def Bv : Nat -> Option Norm := dH [(5, agE)]
def Kz : End := ⟨[], ⟨[25], [], [], []⟩⟩
def Y9 (l : List TV) (o : List (Nat × TO)) : Option (Int) := match l, o with | [.dv (.int .i64) x0], [] => some (x0) | _, _ => none
def WX (x0 : List Int) (kD : Int) (jA : Int) : TS := ⟨slots 25 [(0, .dv (.sl (.int .i64)) x0), (3, .dv (.int .i64) kD), (4, .dv (.int .i64) jA)], []⟩
def an' (N : Nat) : dC (Int) := fG (TK) Bv N YI [1, 1, 1, 0, 1, 0] (fin TI Kz (bC Tryz.f60) Y9)
def VU (N : Nat) (m : Nat) : TS -> Option (Int) := eX (den (TK) Bv N (sub YI [1, 1, 1, 0, 1, 0, 0])) (TS.norm agE) (an' N) m
def XY (x0 : List Int) (F0 : Int -> Int -> Option (Int)) (kD : Int) (jA : Int) : Option (Int) :=
   cond (decide (jA < (x0.length : Int))) (chk (decide (0 <= jA /\ jA < (x0.length : Int))) ((F0 (vY kD (x0.getD jA.toNat 0)) (aH (jA + 1)))))
   (some kD)
def G5 (N : Nat) (x0 : List Int) : Nat -> Int -> Int -> Option (Int)
 | 0, _, _ => none
 | n + 1, kD, jA => XY x0 (G5 N x0 n) kD jA
theorem aHD (N : Nat) (x0 : List Int) (m : Nat) (kD : Int) (jA : Int) : VU N (m + 1) (WX x0 kD jA) = XY x0 (fun y0 y1 => (VU N m (WX x0 y0 y1))) kD jA := by kernel_rfl
theorem aiQ (N : Nat) (x0 : List Int) : ∀ (m : Nat) (kD : Int) (jA : Int), VU N m (WX x0 kD jA) = G5 N x0 m kD jA
        | 0, _, _ => rfl
        | m + 1, kD, jA => by rw [aHD]; simp only [G5, aiQ N x0 m]
def Dw (N : Nat) (x0 : List Int) : Option (Int) :=
   cond (decide ((x0.length : Int) < (1 : Int))) (none)
   (chk (decide (0 <= (0 : Int) /\ (0 : Int) < (x0.length : Int))) ((G5 N x0 N (x0.getD 0 (0 : Int)) (1 : Int))))
theorem aH4 (N : Nat) (x0 : List Int) : bK (TK) Bv N Kz YI (bC Tryz.f60) 24 [.dv (.sl (.int .i64)) x0] [] Y9 = cond (decide ((x0.length : Int) < (1 : Int))) (none)
   (chk (decide (0 <= (0 : Int) /\ (0 : Int) < (x0.length : Int))) ((VU N N (WX x0 (x0.getD 0 (0 : Int)) (1 : Int))))) := by kernel_rfl
theorem k60 (N : Nat) (x0 : List Int) : bK (TK) Bv N Kz YI (bC Tryz.f60) 24 [.dv (.sl (.int .i64)) x0] [] Y9 = Dw N x0 := by rw [aH4]; simp only [Dw, aiQ]
theorem aAZ (a : (List Int) -> Option (Int)) (h : ∀ x0 r, a x0 = some r -> (∃ N, Dw N x0 = some r)) : aC prog 60 (NZ a) := by
 intro args Of x hx
 simp only [NZ] at hx
 split at hx
 ·rename_i x0
  obtain ⟨N, hN⟩ := h _ _ hx
  refine dS func60 (by kernel_rfl) (by kernel_rfl) rfl dQ ((k60 N _).trans hN) fun l o hd => ?_
  simp only [Y9] at hd
  split at hd
  ·obtain rfl := aB hd; exact ⟨rfl, rfl⟩
  ·cases hd
 ·cases hx
def E26 (Z : C9) (a60 : C9) : Env := dD TI TY [(59, NY Z), (60, NZ a60)] aY aW
def c26 : Code := dB Tryz.f26
def ayL : Nat -> Option Norm := dH []
def ar8 : End := ⟨[(22, .dX 119 (.int .i64) (.dX 120 (.sl (.int .i64)) (.kY)))], ⟨[22], [], [], []⟩⟩
def abY (l : List TV) (o : List (Nat × TO)) : Option (Int ⊕ ((List Int) ⊕ Unit)) := match l, o with | [.dv (.dX 119 (.int .i64) (.dX 120 (.sl (.int .i64)) (.kY))) x0], [] => some (x0) | _, _ => none
def Rj (Z : C9) (a60 : C9) (N : Nat) (p0 : aG) (i1 : Int) : Option (Int ⊕ ((List Int) ⊕ Unit)) :=
   chk (decide (0 <= i1 /\ i1 < (p0.2.1.length : Int))) ((Z (p0.2.1.getD i1.toNat ([] : List Int))).bind fun r1 =>
   (a60 (p0.2.1.getD i1.toNat ([] : List Int))).bind fun r2 =>
   cond (r1 == r2) (chk (decide (0 <= (0 : Int) /\ (0 : Int) < ((p0.2.1.getD i1.toNat ([] : List Int)).length : Int))) (some (Sum.inl ((p0.2.1.getD i1.toNat ([] : List Int)).getD 0 (0 : Int)))))
   (some (Sum.inr (Sum.inl (p0.2.1.getD i1.toNat ([] : List Int))))))
theorem k26 (Z : C9) (a60 : C9) (N : Nat) (p0 : aG) (i1 : Int) : bK (E26 Z a60) ayL N ar8 c26 (bC Tryz.f26) 20 [.dv kN p0, .dv (.int .i64) i1] [] abY = Rj Z a60 N p0 i1 := by kernel_rfl
theorem aAJ (Z : C9) (a60 : C9) (h59 : aC prog 59 (NY Z)) (h60 : aC prog 60 (NZ a60)) (a : (aG) -> Int -> Option (Int ⊕ ((List Int) ⊕ Unit))) (h : ∀ p0 i1 r, a p0 i1 = some r -> (∃ N, Rj Z a60 N p0 i1 = some r)) : aC prog 26 (EY a) := by
 intro args Of x hx
 simp only [EY] at hx
 split at hx
 ·rename_i p0 i1
  obtain ⟨N, hN⟩ := h _ _ _ hx
  refine dS func26 (by kernel_rfl) (by kernel_rfl) rfl (dK h59 (dK h60 dQ)) ((k26 Z a60 N _ _).trans hN) fun l o hd => ?_
  simp only [abY] at hd
  split at hd
  ·obtain rfl := aB hd; exact ⟨rfl, rfl⟩
  ·cases hd
 ·cases hx
def E91 : Env := dD TI TY [] aY aW
def c91 : Code := dB Tryz.f91
def ayY : Nat -> Option Norm := dH []
def asM : End := ⟨[], ⟨[6], [], [], []⟩⟩
def acE (l : List TV) (o : List (Nat × TO)) : Option (Int) := match l, o with | [.dv (.int .i64) x0], [] => some (x0) | _, _ => none
def m91 (N : Nat) (o0 : Int) (t1 : Int) : Option (Int) :=
   some o0
theorem k91 (N : Nat) (o0 : Int) (t1 : Int) : bK (E91) ayY N asM c91 (bC Tryz.f91) 4 [.dv (.int .i64) o0, .dv (.int .i64) t1] [] acE = m91 N o0 t1 := by kernel_rfl
theorem aA7 (a : Int -> Int -> Option (Int)) (h : ∀ o0 t1 r, a o0 t1 = some r -> (∃ N, m91 N o0 t1 = some r)) : aC prog 91 (FB a) := by
 intro args Of x hx
 simp only [FB] at hx
 split at hx
 ·rename_i o0 t1
  obtain ⟨N, hN⟩ := h _ _ _ hx
  refine dS func91 (by kernel_rfl) (by kernel_rfl) rfl dQ ((k91 N _ _).trans hN) fun l o hd => ?_
  simp only [acE] at hd
  split at hd
  ·obtain rfl := aB hd; exact ⟨rfl, rfl⟩
  ·cases hd
 ·cases hx
def SS (B : mG) (G : sO) (C : mJ) (A : mF) : Env := dD TI TY [(195, EW B), (25, EX G), (26, EY C), (91, FB A)] aY aW
def c11 : Code := dB Tryz.f11
def afT : Norm := ⟨[2, 3, 9, 25, 26, 27], [3], [], []⟩
def Az : Nat -> Option Norm := dH [(8, afT)]
def Js : End := ⟨[], ⟨[43, 44], [], [], []⟩⟩
def YU (l : List TV) (o : List (Nat × TO)) : Option (Int × Int) := match l, o with | [.dv (.int .i64) x0, .dv (.int .i64) x1], [] => some (x0, x1) | _, _ => none
def WA (p0 : aG) (bT : List Int) (jG : List Bool) (rJ : Int) (nD : Int) : TS := ⟨slots 43 [(2, .dv (.sl (.bool)) jG), (3, .ptr 3 0 []), (9, .dv (.int .i64) rJ), (25, .dv (.sl (.int .i64)) bT), (26, .dv (.int .i64) (bT.length : Int)), (27, .dv (.int .i64) nD)], [(3, .row kN ([p0] : List (aG)))]⟩
def am' (B : mG) (G : sO) (C : mJ) (A : mF) (N : Nat) : dC (Int × Int) := fG (SS B G C A) Az N c11 [1, 1, 1, 1, 0, 1, 0] (fin TI Js (bC Tryz.f11) YU)
def U2 (B : mG) (G : sO) (C : mJ) (A : mF) (N : Nat) (m : Nat) : TS -> Option (Int × Int) := eX (den (SS B G C A) Az N (sub c11 [1, 1, 1, 1, 0, 1, 0, 0])) (TS.norm afT) (am' B G C A N) m
def XK (B : mG) (C : mJ) (A : mF) (p0 : aG) (bT : List Int) (jG : List Bool) (F0 : Int -> Int -> Option (Int × Int)) (rJ : Int) (nD : Int) : Option (Int × Int) :=
   cond (decide (nD < (bT.length : Int))) (chk (decide (0 <= nD /\ nD < (bT.length : Int))) (chk (decide (0 <= nD /\ nD < (jG.length : Int))) (cond (jG.getD nD.toNat false) ((C p0 (bT.getD nD.toNat 0)).bind fun r2 =>
   zC r2 (fun h3 =>
   (A h3 rJ).bind fun r5 =>
   (F0 r5 (aH (nD + 1)))) (fun g4 =>
   zC g4 (fun h6 =>
   (B h6 rJ).bind fun r8 =>
   (F0 r8 (aH (nD + 1)))) (fun g7 =>
   none)))
   ((F0 rJ (aH (nD + 1)))))))
   (some (rJ, (0 : Int)))
def D6 (B : mG) (G : sO) (C : mJ) (A : mF) (N : Nat) (p0 : aG) (bT : List Int) (jG : List Bool) : Nat -> Int -> Int -> Option (Int × Int)
 | 0, _, _ => none
 | n + 1, rJ, nD => XK B C A p0 bT jG (D6 B G C A N p0 bT jG n) rJ nD
theorem aGL (B : mG) (G : sO) (C : mJ) (A : mF) (N : Nat) (p0 : aG) (bT : List Int) (jG : List Bool) (m : Nat) (rJ : Int) (nD : Int) : U2 B G C A N (m + 1) (WA p0 bT jG rJ nD) = XK B C A p0 bT jG (fun y0 y1 => (U2 B G C A N m (WA p0 bT jG y0 y1))) rJ nD := by kernel_rfl
theorem ahY (B : mG) (G : sO) (C : mJ) (A : mF) (N : Nat) (p0 : aG) (bT : List Int) (jG : List Bool) : ∀ (m : Nat) (rJ : Int) (nD : Int), U2 B G C A N m (WA p0 bT jG rJ nD) = D6 B G C A N p0 bT jG m rJ nD
        | 0, _, _ => rfl
        | m + 1, rJ, nD => by rw [aGL]; simp only [D6, ahY B G C A N p0 bT jG m]
def m11 (B : mG) (G : sO) (C : mJ) (A : mF) (N : Nat) (p0 : aG) (bT : List Int) (jG : List Bool) : Option (Int × Int) :=
   (G p0 bT (12 : Int)).bind fun r1 =>
   cond (r1 != (0 : Int)) (some ((0 : Int), r1))
   (cond ((jG.length : Int) != (bT.length : Int)) (some ((0 : Int), (3 : Int)))
   ((D6 B G C A N p0 bT jG N (0 : Int) (0 : Int))))
theorem aHP (B : mG) (G : sO) (C : mJ) (A : mF) (N : Nat) (p0 : aG) (bT : List Int) (jG : List Bool) : bK (SS B G C A) Az N Js c11 (bC Tryz.f11) 40 [.dv kN p0, .dv (.sl (.int .i64)) bT, .dv (.sl (.bool)) jG] [] YU = (G p0 bT (12 : Int)).bind fun r1 =>
   cond (r1 != (0 : Int)) (some ((0 : Int), r1))
   (cond ((jG.length : Int) != (bT.length : Int)) (some ((0 : Int), (3 : Int)))
   ((U2 B G C A N N (WA p0 bT jG (0 : Int) (0 : Int))))) := by kernel_rfl
theorem k11 (B : mG) (G : sO) (C : mJ) (A : mF) (N : Nat) (p0 : aG) (bT : List Int) (jG : List Bool) : bK (SS B G C A) Az N Js c11 (bC Tryz.f11) 40 [.dv kN p0, .dv (.sl (.int .i64)) bT, .dv (.sl (.bool)) jG] [] YU = m11 B G C A N p0 bT jG := by rw [aHP]; simp only [m11, ahY]
theorem azX (B : mG) (G : sO) (C : mJ) (A : mF) (Nw : aC prog 195 (EW B)) (Ny : aC prog 25 (EX G)) (Nz : aC prog 26 (EY C)) (Oc : aC prog 91 (FB A)) (a : (aG) -> (List Int) -> (List Bool) -> Option (Int × Int)) (h : ∀ p0 bT jG r, a p0 bT jG = some r -> (∃ N, m11 B G C A N p0 bT jG = some r)) : aC prog 11 (F11 a) := by
 intro args Of x hx
 simp only [F11] at hx
 split at hx
 ·rename_i p0 bT jG
  obtain ⟨N, hN⟩ := h _ _ _ _ hx
  refine dS func11 (by kernel_rfl) (by kernel_rfl) rfl (dK Nw (dK Ny (dK Nz (dK Oc dQ)))) ((k11 B G C A N _ _ _).trans hN) fun l o hd => ?_
  simp only [YU] at hd
  split at hd
  ·obtain rfl := aB hd; exact ⟨rfl, rfl⟩
  ·cases hd
 ·cases hx
def E62 : Env := dD TI TY [] aY aW
def c62 : Code := dB Tryz.f62
def ayU : Nat -> Option Norm := dH []
def asH : End := ⟨[], ⟨[10], [], [], []⟩⟩
def ab8 (l : List TV) (o : List (Nat × TO)) : Option (Bool) := match l, o with | [.dv (.bool) x0], [] => some (x0) | _, _ => none
def Rw (N : Nat) (s0 : Int) (lG : Int) : Option (Bool) :=
   chk (decide (0 <= lG)) (some ((yS .u8 (Int.fdiv s0 (2 ^ min (Int.toNat lG) 8)) (1 : Int)) == (1 : Int)))
theorem k62 (N : Nat) (s0 : Int) (lG : Int) : bK (E62) ayU N asH c62 (bC Tryz.f62) 8 [.dv (.int .u8) s0, .dv (.int .i64) lG] [] ab8 = Rw N s0 lG := by kernel_rfl
theorem aA1 (a : Int -> Int -> Option (Bool)) (h : ∀ s0 lG r, a s0 lG = some r -> (∃ N, Rw N s0 lG = some r)) : aC prog 62 (N8 a) := by
 intro args Of x hx
 simp only [N8] at hx
 split at hx
 ·rename_i s0 lG
  obtain ⟨N, hN⟩ := h _ _ _ hx
  refine dS func62 (by kernel_rfl) (by kernel_rfl) rfl dQ ((k62 N _ _).trans hN) fun l o hd => ?_
  simp only [ab8] at hd
  split at hd
  ·obtain rfl := aB hd; exact ⟨rfl, rfl⟩
  ·cases hd
 ·cases hx
def TB (P : wR) : Env := dD TI TY [(62, N8 P)] aY aW
def c28 : Code := dB Tryz.f28
def af4 : Norm := ⟨[4, 8], [], [(.slot 3, 1003, .int .i64)], []⟩
def Bg : Nat -> Option Norm := dH [(4, af4)]
def Ko : End := ⟨[(20, .sl (.int .i64))], ⟨[20], [], [], []⟩⟩
def Y1 (l : List TV) (o : List (Nat × TO)) : Option (List Int) := match l, o with | [.dv (.sl (.int .i64)) x0], [] => some (x0) | _, _ => none
def WN (s0 : Int) (bG : Int) (sD : List Int) : TS := ⟨slots 20 [(3, .row 1003), (4, .fn 62 1 0 fun i => ([.dv (.int .u8) s0] : List TV).getD i .any), (8, .dv (.int .i64) bG)], [(1003, .row (.int .i64) sD)]⟩
def anY (P : wR) (N : Nat) : dC (List Int) := fG (TB P) Bg N c28 [1, 1, 1, 0, 1, 0] (fin TI Ko (bC Tryz.f28) Y1)
def VD (P : wR) (N : Nat) (m : Nat) : TS -> Option (List Int) := eX (den (TB P) Bg N (sub c28 [1, 1, 1, 0, 1, 0, 0])) (TS.norm af4) (anY P N) m
def XP (P : wR) (s0 : Int) (F0 : Int -> (List Int) -> Option (List Int)) (bG : Int) (sD : List Int) : Option (List Int) :=
   cond (decide (bG < (7 : Int))) ((P s0 bG).bind fun r1 =>
   cond (r1) (chk (small (sD.length + 1) 8) ((F0 (aH (bG + 1)) (sD ++ ([bG] : List Int)))))
   ((F0 (aH (bG + 1)) sD)))
   (some sD)
def l28a (P : wR) (N : Nat) (s0 : Int) : Nat -> Int -> (List Int) -> Option (List Int)
 | 0, _, _ => none
 | n + 1, bG, sD => XP P s0 (l28a P N s0 n) bG sD
theorem aGX (P : wR) (N : Nat) (s0 : Int) (m : Nat) (bG : Int) (sD : List Int) : VD P N (m + 1) (WN s0 bG sD) = XP P s0 (fun y0 y1 => (VD P N m (WN s0 y0 y1))) bG sD := by kernel_rfl
theorem ah' (P : wR) (N : Nat) (s0 : Int) : ∀ (m : Nat) (bG : Int) (sD : List Int), VD P N m (WN s0 bG sD) = l28a P N s0 m bG sD
        | 0, _, _ => rfl
        | m + 1, bG, sD => by rw [aGX]; simp only [l28a, ah' P N s0 m]
def Dj (P : wR) (N : Nat) (s0 : Int) : Option (List Int) :=
   (l28a P N s0 N (0 : Int) ([] : List Int))
theorem aHX (P : wR) (N : Nat) (s0 : Int) : bK (TB P) Bg N Ko c28 (bC Tryz.f28) 19 [.dv (.int .u8) s0] [] Y1 = (VD P N N (WN s0 (0 : Int) ([] : List Int))) := by kernel_rfl
theorem k28 (P : wR) (N : Nat) (s0 : Int) : bK (TB P) Bg N Ko c28 (bC Tryz.f28) 19 [.dv (.int .u8) s0] [] Y1 = Dj P N s0 := by rw [aHX]; simp only [Dj, ah']
theorem aAL (P : wR) (h62 : aC prog 62 (N8 P)) (a : Int -> Option (List Int)) (h : ∀ s0 r, a s0 = some r -> (∃ N, Dj P N s0 = some r)) : aC prog 28 (EZ a) := by
 intro args Of x hx
 simp only [EZ] at hx
 split at hx
 ·rename_i s0
  obtain ⟨N, hN⟩ := h _ _ hx
  refine dS func28 (by kernel_rfl) (by kernel_rfl) rfl (dK h62 dQ) ((k28 P N _).trans hN) fun l o hd => ?_
  simp only [Y1] at hd
  split at hd
  ·obtain rfl := aB hd; exact ⟨rfl, rfl⟩
  ·cases hd
 ·cases hx
def TL (B : mG) (H : sN) (A : mF) : Env := dD TI TY [(195, EW B), (28, EZ H), (91, FB A)] aY aW
def YJ : Code := dB Tryz.f61
def agF : Norm := ⟨[6, 7, 13, 14, 15], [], [], []⟩
def Bz : Nat -> Option Norm := dH [(5, agF)]
def La : End := ⟨[], ⟨[35], [], [], []⟩⟩
def ZA (l : List TV) (o : List (Nat × TO)) : Option (Int) := match l, o with | [.dv (.int .u8) x0], [] => some (x0) | _, _ => none
def WY (jE : Int ⊕ ((List Int) ⊕ Unit)) (r2 : List Int) (tY : Int) (oP : Int) : TS := ⟨slots 35 [(6, .dv (.dX 119 (.int .i64) (.dX 120 (.sl (.int .i64)) (.kY))) jE), (7, .dv (.int .u8) tY), (13, .dv (.sl (.int .i64)) r2), (14, .dv (.int .i64) (r2.length : Int)), (15, .dv (.int .i64) oP)], []⟩
def aoA (B : mG) (H : sN) (A : mF) (N : Nat) : dC (Int) := fG (TL B H A) Bz N YJ [1, 1, 0, 1, 1, 1, 1, 0, 1, 0] (fin TI La (bC Tryz.f61) ZA)
def VV (B : mG) (H : sN) (A : mF) (N : Nat) (m : Nat) : TS -> Option (Int) := eX (den (TL B H A) Bz N (sub YJ [1, 1, 0, 1, 1, 1, 1, 0, 1, 0, 0])) (TS.norm agF) (aoA B H A N) m
def XZ (B : mG) (A : mF) (jE : Int ⊕ ((List Int) ⊕ Unit)) (r2 : List Int) (F0 : Int -> Int -> Option (Int)) (tY : Int) (oP : Int) : Option (Int) :=
   cond (decide (oP < (r2.length : Int))) (chk (decide (0 <= oP /\ oP < (r2.length : Int))) (zC jE (fun h3 =>
   (A h3 (r2.getD oP.toNat 0)).bind fun r5 =>
   chk (decide (0 <= r5)) ((F0 (sQ .u8 tY (IntKind.wrap .u8 ((1 : Int) * 2 ^ min (Int.toNat r5) 8))) (aH (oP + 1))))) (fun g4 =>
   zC g4 (fun h6 =>
   (B h6 (r2.getD oP.toNat 0)).bind fun r8 =>
   chk (decide (0 <= r8)) ((F0 (sQ .u8 tY (IntKind.wrap .u8 ((1 : Int) * 2 ^ min (Int.toNat r8) 8))) (aH (oP + 1))))) (fun g7 =>
   none))))
   (some tY)
def G6 (B : mG) (H : sN) (A : mF) (N : Nat) (jE : Int ⊕ ((List Int) ⊕ Unit)) (r2 : List Int) : Nat -> Int -> Int -> Option (Int)
 | 0, _, _ => none
 | n + 1, tY, oP => XZ B A jE r2 (G6 B H A N jE r2 n) tY oP
theorem aHE (B : mG) (H : sN) (A : mF) (N : Nat) (jE : Int ⊕ ((List Int) ⊕ Unit)) (r2 : List Int) (m : Nat) (tY : Int) (oP : Int) : VV B H A N (m + 1) (WY jE r2 tY oP) = XZ B A jE r2 (fun y0 y1 => (VV B H A N m (WY jE r2 y0 y1))) tY oP := by kernel_rfl
theorem aiR (B : mG) (H : sN) (A : mF) (N : Nat) (jE : Int ⊕ ((List Int) ⊕ Unit)) (r2 : List Int) : ∀ (m : Nat) (tY : Int) (oP : Int), VV B H A N m (WY jE r2 tY oP) = G6 B H A N jE r2 m tY oP
        | 0, _, _ => rfl
        | m + 1, tY, oP => by rw [aHE]; simp only [G6, aiR B H A N jE r2 m]
def QG (B : mG) (H : sN) (A : mF) (N : Nat) (s0 : Int) (jE : Int ⊕ ((List Int) ⊕ Unit)) : Option (Int) :=
   cond ((KU jE).isSome) ((A ((KU jE).getD (0 : Int)) (0 : Int)).bind fun r1 =>
   chk (decide (0 <= r1)) (some (sQ .u8 s0 (IntKind.wrap .u8 ((1 : Int) * 2 ^ min (Int.toNat r1) 8)))))
   ((H s0).bind fun r2 =>
   (G6 B H A N jE r2 N s0 (0 : Int)))
theorem aH5 (B : mG) (H : sN) (A : mF) (N : Nat) (s0 : Int) (jE : Int ⊕ ((List Int) ⊕ Unit)) : bK (TL B H A) Bz N La YJ (bC Tryz.f61) 33 [.dv (.int .u8) s0, .dv (.dX 119 (.int .i64) (.dX 120 (.sl (.int .i64)) (.kY))) jE] [] ZA = cond ((KU jE).isSome) ((A ((KU jE).getD (0 : Int)) (0 : Int)).bind fun r1 =>
   chk (decide (0 <= r1)) (some (sQ .u8 s0 (IntKind.wrap .u8 ((1 : Int) * 2 ^ min (Int.toNat r1) 8)))))
   ((H s0).bind fun r2 =>
   (VV B H A N N (WY jE r2 s0 (0 : Int)))) := by kernel_rfl
theorem k61 (B : mG) (H : sN) (A : mF) (N : Nat) (s0 : Int) (jE : Int ⊕ ((List Int) ⊕ Unit)) : bK (TL B H A) Bz N La YJ (bC Tryz.f61) 33 [.dv (.int .u8) s0, .dv (.dX 119 (.int .i64) (.dX 120 (.sl (.int .i64)) (.kY))) jE] [] ZA = QG B H A N s0 jE := by rw [aH5]; simp only [QG, aiR]
theorem aA0 (B : mG) (H : sN) (A : mF) (Nw : aC prog 195 (EW B)) (h28 : aC prog 28 (EZ H)) (Oc : aC prog 91 (FB A)) (a : Int -> (Int ⊕ ((List Int) ⊕ Unit)) -> Option (Int)) (h : ∀ s0 jE r, a s0 jE = some r -> (∃ N, QG B H A N s0 jE = some r)) : aC prog 61 (N7 a) := by
 intro args Of x hx
 simp only [N7] at hx
 split at hx
 ·rename_i s0 jE
  obtain ⟨N, hN⟩ := h _ _ _ hx
  refine dS func61 (by kernel_rfl) (by kernel_rfl) rfl (dK Nw (dK h28 (dK Oc dQ))) ((k61 B H A N _ _).trans hN) fun l o hd => ?_
  simp only [ZA] at hd
  split at hd
  ·obtain rfl := aB hd; exact ⟨rfl, rfl⟩
  ·cases hd
 ·cases hx
def TA (C : mJ) (Q : wS) : Env := dD TI TY [(26, EY C), (61, N7 Q)] aY aW
def YD : Code := dB Tryz.f27
def af2 : Norm := ⟨[2, 5, 8, 9, 10], [2], [], []⟩
def Bf : Nat -> Option Norm := dH [(3, af2)]
def Jz : End := ⟨[], ⟨[21], [], [], []⟩⟩
def Y0 (l : List TV) (o : List (Nat × TO)) : Option (Int) := match l, o with | [.dv (.int .u8) x0], [] => some (x0) | _, _ => none
def WM (p0 : aG) (bT : List Int) (vF : Int) (qX : Int) : TS := ⟨slots 21 [(2, .ptr 2 0 []), (5, .dv (.int .u8) vF), (8, .dv (.sl (.int .i64)) bT), (9, .dv (.int .i64) (bT.length : Int)), (10, .dv (.int .i64) qX)], [(2, .row kN ([p0] : List (aG)))]⟩
def anX (C : mJ) (Q : wS) (N : Nat) : dC (Int) := fG (TA C Q) Bf N YD [1, 1, 0, 1, 0] (fin TI Jz (bC Tryz.f27) Y0)
def VC (C : mJ) (Q : wS) (N : Nat) (m : Nat) : TS -> Option (Int) := eX (den (TA C Q) Bf N (sub YD [1, 1, 0, 1, 0, 0])) (TS.norm af2) (anX C Q N) m
def XO (C : mJ) (Q : wS) (p0 : aG) (bT : List Int) (F0 : Int -> Int -> Option (Int)) (vF : Int) (qX : Int) : Option (Int) :=
   cond (decide (qX < (bT.length : Int))) (chk (decide (0 <= qX /\ qX < (bT.length : Int))) ((C p0 (bT.getD qX.toNat 0)).bind fun r1 =>
   (Q vF r1).bind fun r2 =>
   (F0 r2 (aH (qX + 1)))))
   (some vF)
def l27a (C : mJ) (Q : wS) (N : Nat) (p0 : aG) (bT : List Int) : Nat -> Int -> Int -> Option (Int)
 | 0, _, _ => none
 | n + 1, vF, qX => XO C Q p0 bT (l27a C Q N p0 bT n) vF qX
theorem aGW (C : mJ) (Q : wS) (N : Nat) (p0 : aG) (bT : List Int) (m : Nat) (vF : Int) (qX : Int) : VC C Q N (m + 1) (WM p0 bT vF qX) = XO C Q p0 bT (fun y0 y1 => (VC C Q N m (WM p0 bT y0 y1))) vF qX := by kernel_rfl
theorem ah9 (C : mJ) (Q : wS) (N : Nat) (p0 : aG) (bT : List Int) : ∀ (m : Nat) (vF : Int) (qX : Int), VC C Q N m (WM p0 bT vF qX) = l27a C Q N p0 bT m vF qX
        | 0, _, _ => rfl
        | m + 1, vF, qX => by rw [aGW]; simp only [l27a, ah9 C Q N p0 bT m]
def Di (C : mJ) (Q : wS) (N : Nat) (p0 : aG) (bT : List Int) : Option (Int) :=
   (l27a C Q N p0 bT N (1 : Int) (0 : Int))
theorem aHW (C : mJ) (Q : wS) (N : Nat) (p0 : aG) (bT : List Int) : bK (TA C Q) Bf N Jz YD (bC Tryz.f27) 19 [.dv kN p0, .dv (.sl (.int .i64)) bT] [] Y0 = (VC C Q N N (WM p0 bT (1 : Int) (0 : Int))) := by kernel_rfl
theorem k27 (C : mJ) (Q : wS) (N : Nat) (p0 : aG) (bT : List Int) : bK (TA C Q) Bf N Jz YD (bC Tryz.f27) 19 [.dv kN p0, .dv (.sl (.int .i64)) bT] [] Y0 = Di C Q N p0 bT := by rw [aHW]; simp only [Di, ah9]
theorem aAK (C : mJ) (Q : wS) (Nz : aC prog 26 (EY C)) (h61 : aC prog 61 (N7 Q)) (a : (aG) -> (List Int) -> Option (Int)) (h : ∀ p0 bT r, a p0 bT = some r -> (∃ N, Di C Q N p0 bT = some r)) : aC prog 27 (F27 a) := by
 intro args Of x hx
 simp only [F27] at hx
 split at hx
 ·rename_i p0 bT
  obtain ⟨N, hN⟩ := h _ _ _ hx
  refine dS func27 (by kernel_rfl) (by kernel_rfl) rfl (dK Nz (dK h61 dQ)) ((k27 C Q N _ _).trans hN) fun l o hd => ?_
  simp only [Y0] at hd
  split at hd
  ·obtain rfl := aB hd; exact ⟨rfl, rfl⟩
  ·cases hd
 ·cases hx
def E12 (G : sO) (a27 : UL) (H : sN) : Env := dD TI TY [(25, EX G), (27, F27 a27), (28, EZ H)] aY aW
def c12 : Code := dB Tryz.f12
def ax7 : Nat -> Option Norm := dH []
def arS : End := ⟨[(17, .sl (.int .i64))], ⟨[17, 18], [], [], []⟩⟩
def abJ (l : List TV) (o : List (Nat × TO)) : Option (List Int × Int) := match l, o with | [.dv (.sl (.int .i64)) x0, .dv (.int .i64) x1], [] => some (x0, x1) | _, _ => none
def m12 (G : sO) (a27 : UL) (H : sN) (N : Nat) (p0 : aG) (bT : List Int) : Option (List Int × Int) :=
   (G p0 bT (12 : Int)).bind fun r1 =>
   cond (r1 != (0 : Int)) (some (([] : List Int), r1))
   ((a27 p0 bT).bind fun r2 =>
   (H r2).bind fun r3 =>
   some (r3, (0 : Int)))
theorem k12 (G : sO) (a27 : UL) (H : sN) (N : Nat) (p0 : aG) (bT : List Int) : bK (E12 G a27 H) ax7 N arS c12 (bC Tryz.f12) 15 [.dv kN p0, .dv (.sl (.int .i64)) bT] [] abJ = m12 G a27 H N p0 bT := by kernel_rfl
theorem azZ (G : sO) (a27 : UL) (H : sN) (Ny : aC prog 25 (EX G)) (h27 : aC prog 27 (F27 a27)) (h28 : aC prog 28 (EZ H)) (a : (aG) -> (List Int) -> Option (List Int × Int)) (h : ∀ p0 bT r, a p0 bT = some r -> (∃ N, m12 G a27 H N p0 bT = some r)) : aC prog 12 (MZ a) := by
 intro args Of x hx
 simp only [MZ] at hx
 split at hx
 ·rename_i p0 bT
  obtain ⟨N, hN⟩ := h _ _ _ hx
  refine dS func12 (by kernel_rfl) (by kernel_rfl) rfl (dK Ny (dK h27 (dK h28 dQ))) ((k12 G a27 H N _ _).trans hN) fun l o hd => ?_
  simp only [abJ] at hd
  split at hd
  ·obtain rfl := aB hd; exact ⟨rfl, rfl⟩
  ·cases hd
 ·cases hx
end
end Go.Proofs.YtfopcfnggdonkaaGreatDoor
