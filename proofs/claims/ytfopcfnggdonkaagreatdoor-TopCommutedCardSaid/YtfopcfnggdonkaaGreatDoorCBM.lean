/-
 The functions that the law reaches, told as plain functions.
-/
import Derived.Test.YtfopcfnggdonkaaGreatDoorWCM
namespace Go.Proofs.YtfopcfnggdonkaaGreatDoor
open Go.Proofs.Tryz
open Go.RowKit
set_option linter.unusedVariables false
noncomputable section
abbrev lS := ((0 : Int), ((0 : Int), (false, ((false, ((0 : Int), ())), ()))))
abbrev jP : List (Int × Int × Bool × (Bool × Int × Unit) × Unit) := [lS, lS, lS, lS, lS, lS, lS, lS, lS, lS, lS, lS, lS]
abbrev lF : List (List (Int × Int × Bool × (Bool × Int × Unit) × Unit)) := [jP, jP, jP, jP, jP, jP, jP, jP, jP, jP, jP, jP, jP]
abbrev oI : DT := .sl (.pair (.int .i64) (.pair (.int .i64) (.pair (.int .i64) (.unit))))
abbrev eY := Int × Int × Int × Unit
abbrev o9 := List (List (Int × Int × Bool × (Bool × Int × Unit) × Unit))
abbrev AX : DT := .pair (.int .i64) (.pair (.int .i64) (.pair (.bool) (.pair (.pair (.bool) (.pair (.int .i64) (.unit))) (.unit))))
abbrev CV := Int -> Int -> Int -> Option (Bool)
abbrev yM := (Int × Int × Int × Unit) -> Option (Bool)
abbrev CW := (List (Int × Int × Int × Unit)) -> Option (Int)
abbrev SL := (List (Int × Int × Int × Unit)) -> Option (Bool)
abbrev SN := (Int × Int × Bool × (Bool × Int × Unit) × Unit) -> (Int × Int × Bool × (Bool × Int × Unit) × Unit) -> Option (Bool)
abbrev kQ := Int -> Int -> (List (Int × Int × Int × Unit)) -> Option (Int × Bool)
abbrev kR := (Int × Int × Bool × (Bool × Int × Unit) × Unit) -> (Int × Int × Bool × (Bool × Int × Unit) × Unit) -> (Bool × Int × Unit) -> Nat -> Nat -> (List (List (List (Int × Int × Bool × (Bool × Int × Unit) × Unit)))) -> Option (Nat × Nat × List (List (List (Int × Int × Bool × (Bool × Int × Unit) × Unit))))
abbrev vI := List (List (List (Int × Int × Bool × (Bool × Int × Unit) × Unit)))
abbrev nH := TS -> Option (List (List (List (Int × Int × Bool × (Bool × Int × Unit) × Unit))))
abbrev Hu := Int -> (List (List (List (Int × Int × Bool × (Bool × Int × Unit) × Unit)))) -> Option (List (List (List (Int × Int × Bool × (Bool × Int × Unit) × Unit))))
abbrev SI := Int -> Int -> (List (Int × Int × Int × Unit)) -> Option (Int)
abbrev SK := Int -> Int -> (List (Int × Int × Int × Unit)) -> Option (List (List (List (Int × Int × Bool × (Bool × Int × Unit) × Unit))))
def alC : Env := dD TI TY [] aY aW
def aqE : Code := dB Tryz.f120
def ax8 : Nat -> Option Norm := dH []
def arT : End := ⟨[], ⟨[15], [], [], []⟩⟩
def abK (l : List TV) (o : List (Nat × TO)) : Option (Bool) := match l, o with | [.dv (.bool) x0], [] => some (x0) | _, _ => none
def Qp (N : Nat) (eF : Int) (n1 : Int) (hi2 : Int) : Option (Bool) :=
   cond (decide (eF <= n1)) (some (decide (n1 <= hi2)))
   (some false)
theorem awO (N : Nat) (eF : Int) (n1 : Int) (hi2 : Int) : bK (alC) ax8 N arT aqE (bC Tryz.f120) 12 [.dv (.int .i64) eF, .dv (.int .i64) n1, .dv (.int .i64) hi2] [] abK = Qp N eF n1 hi2 := by kernel_rfl
theorem az0 (a : Int -> Int -> Int -> Option (Bool)) (h : ∀ eF n1 hi2 r, a eF n1 hi2 = some r -> (∃ N, Qp N eF n1 hi2 = some r)) : aC prog 120 (EU a) := by
 intro args Of x hx
 simp only [EU] at hx
 split at hx
 ·rename_i eF n1 hi2
  obtain ⟨N, hN⟩ := h _ _ _ _ hx
  refine dS func120 (by kernel_rfl) (by kernel_rfl) rfl dQ ((awO N _ _ _).trans hN) fun l o hd => ?_
  simp only [abK] at hd
  split at hd
  ·obtain rfl := aB hd; exact ⟨rfl, rfl⟩
  ·cases hd
 ·cases hx
def alI (G : CV) : Env := dD TI TY [(120, EU G)] aY aW
def aqI : Code := dB Tryz.f132
def ayD : Nat -> Option Norm := dH []
def arZ : End := ⟨[], ⟨[19], [], [], []⟩⟩
def abQ (l : List TV) (o : List (Nat × TO)) : Option (Bool) := match l, o with | [.dv (.bool) x0], [] => some (x0) | _, _ => none
def Qw (G : CV) (N : Nat) (rU : Int × Int × Int × Unit) : Option (Bool) :=
   (G (1 : Int) rU.1 (12 : Int)).bind fun r1 =>
   cond (!r1) (some true)
   ((G (1 : Int) rU.2.1 (12 : Int)).bind fun r2 =>
   cond (!r2) (some true)
   ((G (0 : Int) rU.2.2.1 (1000 : Int)).bind fun r3 =>
   some (!r3)))
theorem awV (G : CV) (N : Nat) (rU : Int × Int × Int × Unit) : bK (alI G) ayD N arZ aqI (bC Tryz.f132) 18 [.dv (.pair (.int .i64) (.pair (.int .i64) (.pair (.int .i64) (.unit)))) rU] [] abQ = Qw G N rU := by kernel_rfl
theorem az7 (G : CV) (Nv : aC prog 120 (EU G)) (a : eY -> Option (Bool)) (h : ∀ rU r, a rU = some r -> (∃ N, Qw G N rU = some r)) : aC prog 132 (JM a) := by
 intro args Of x hx
 simp only [JM] at hx
 split at hx
 ·rename_i rU
  obtain ⟨N, hN⟩ := h _ _ hx
  refine dS func132 (by kernel_rfl) (by kernel_rfl) rfl (dK Nv dQ) ((awV G N _).trans hN) fun l o hd => ?_
  simp only [abQ] at hd
  split at hd
  ·obtain rfl := aB hd; exact ⟨rfl, rfl⟩
  ·cases hd
 ·cases hx
def SX (D : yM) : Env := dD TI TY [(132, JM D)] aY aW
def YA : Code := dB Tryz.f145
def afV : Norm := ⟨[0, 1, 7, 8], [], [], []⟩
def Bc : Nat -> Option Norm := dH [(2, afV)]
def Ju : End := ⟨[], ⟨[19], [], [], []⟩⟩
def YW (l : List TV) (o : List (Nat × TO)) : Option (Int) := match l, o with | [.dv (.int .i64) x0], [] => some (x0) | _, _ => none
def WC (s0 : List eY) (bG : Int) : TS := ⟨slots 19 [(0, .dv oI s0), (1, .fn 132 0 0 fun i => ([] : List TV).getD i .any), (7, .dv (.int .i64) (s0.length : Int)), (8, .dv (.int .i64) bG)], []⟩
def anL (D : yM) (N : Nat) : dC (Int) := fG (SX D) Bc N YA [1, 0, 1, 0] (fin TI Ju (bC Tryz.f145) YW)
def U3 (D : yM) (N : Nat) (m : Nat) : TS -> Option (Int) := eX (den (SX D) Bc N (sub YA [1, 0, 1, 0, 0])) (TS.norm afV) (anL D N) m
def Ai (D : yM) (N : Nat) (s0 : List eY) : Nat -> Int -> Option (Int)
 | 0, _ => none
 | n + 1, bG => cond (decide (bG < (s0.length : Int))) (chk (decide (0 <= bG /\ bG < (s0.length : Int))) ((D (s0.getD bG.toNat ((0 : Int), ((0 : Int), ((0 : Int), ()))))).bind fun r1 =>
   cond (r1) (some bG)
   ((Ai D N s0 n (aH (bG + 1))))))
   (some (-1 : Int))
theorem aGN (D : yM) (N : Nat) (s0 : List eY) (m : Nat) (bG : Int) : U3 D N (m + 1) (WC s0 bG) = cond (decide (bG < (s0.length : Int))) (chk (decide (0 <= bG /\ bG < (s0.length : Int))) ((D (s0.getD bG.toNat ((0 : Int), ((0 : Int), ((0 : Int), ()))))).bind fun r1 =>
   cond (r1) (some bG)
   ((U3 D N m (WC s0 (aH (bG + 1)))))))
   (some (-1 : Int)) := by kernel_rfl
theorem ah0 (D : yM) (N : Nat) (s0 : List eY) : ∀ (m : Nat) (bG : Int), U3 D N m (WC s0 bG) = Ai D N s0 m bG
        | 0, _ => rfl
        | m + 1, bG => by rw [aGN]; simp only [Ai, ah0 D N s0 m]
def Dc (D : yM) (N : Nat) (s0 : List eY) : Option (Int) :=
   (Ai D N s0 N (0 : Int))
theorem aHR (D : yM) (N : Nat) (s0 : List eY) : bK (SX D) Bc N Ju YA (bC Tryz.f145) 17 [.dv oI s0, .fn 132 0 0 fun i => ([] : List TV).getD i .any] [] YW = (U3 D N N (WC s0 (0 : Int))) := by kernel_rfl
theorem awX (D : yM) (N : Nat) (s0 : List eY) : bK (SX D) Bc N Ju YA (bC Tryz.f145) 17 [.dv oI s0, .fn 132 0 0 fun i => ([] : List TV).getD i .any] [] YW = Dc D N s0 := by rw [aHR]; simp only [Dc, ah0]
theorem az9 (D : yM) (auP : aC prog 132 (JM D)) (a : (List eY) -> Option (Int)) (h : ∀ s0 r, a s0 = some r -> (∃ N, Dc D N s0 = some r)) : aC prog 145 (JO a) := by
 intro args Of x hx
 simp only [JO] at hx
 split at hx
 ·rename_i s0 KH uP
  have hc0 := congrArg (fun c : List (List TV) => c.getD 0 []) uP
  obtain ⟨N, hN⟩ := h _ _ hx
  refine jM.FV (args := [.dv oI s0, .fn 132 0 0 fun i => ([] : List TV).getD i .any]) (O := []) ⟨TV.sG _, TV.IP hc0, trivial⟩ trivial (lifted (L := [(132, JM D)]) (rc := aY) (fz := aW) (fn := Tryz.f145) (by kernel_rfl) (by kernel_rfl) (by kernel_rfl) (by kernel_rfl) rfl ?_ ((awX D N _).trans hN) ?_)
  ·intro p hp; simp only [List.mem_cons, List.not_mem_nil, or_false] at hp; rcases hp with rfl; exact auP
  ·intro l o hd
   simp only [YW] at hd
   split at hd
   ·obtain rfl := aB hd; exact ⟨rfl, rfl⟩
   ·cases hd
 ·cases hx
def alH (H : CW) : Env := dD TI TY [(145, JO H)] aY aW
def aqH : Code := dB Tryz.f131
def ayC : Nat -> Option Norm := dH []
def arY : End := ⟨[], ⟨[9], [], [], []⟩⟩
def abP (l : List TV) (o : List (Nat × TO)) : Option (Bool) := match l, o with | [.dv (.bool) x0], [] => some (x0) | _, _ => none
def Qv (H : CW) (N : Nat) (s0 : List eY) : Option (Bool) :=
   (H s0).bind fun r1 =>
   some (decide (r1 >= (0 : Int)))
theorem awU (H : CW) (N : Nat) (s0 : List eY) : bK (alH H) ayC N arY aqH (bC Tryz.f131) 7 [.dv oI s0, .fn 132 0 0 fun i => ([] : List TV).getD i .any] [] abP = Qv H N s0 := by kernel_rfl
theorem az6 (H : CW) (auS : aC prog 145 (JO H)) (a : (List eY) -> Option (Bool)) (h : ∀ s0 r, a s0 = some r -> (∃ N, Qv H N s0 = some r)) : aC prog 131 (NI a) := by
 intro args Of x hx
 simp only [NI] at hx
 split at hx
 ·rename_i s0 KH uP
  have hc0 := congrArg (fun c : List (List TV) => c.getD 0 []) uP
  obtain ⟨N, hN⟩ := h _ _ hx
  refine jM.FV (args := [.dv oI s0, .fn 132 0 0 fun i => ([] : List TV).getD i .any]) (O := []) ⟨TV.sG _, TV.IP hc0, trivial⟩ trivial (lifted (L := [(145, JO H)]) (rc := aY) (fz := aW) (fn := Tryz.f131) (by kernel_rfl) (by kernel_rfl) (by kernel_rfl) (by kernel_rfl) rfl ?_ ((awU H N _).trans hN) ?_)
  ·intro p hp; simp only [List.mem_cons, List.not_mem_nil, or_false] at hp; rcases hp with rfl; exact auS
  ·intro l o hd
   simp only [abP] at hd
   split at hd
   ·obtain rfl := aB hd; exact ⟨rfl, rfl⟩
   ·cases hd
 ·cases hx
def alD (J : SL) : Env := dD TI TY [(131, NI J)] aY aW
def aqF : Code := dB Tryz.f121
def ax9 : Nat -> Option Norm := dH []
def arU : End := ⟨[], ⟨[14], [], [], []⟩⟩
def abL (l : List TV) (o : List (Nat × TO)) : Option (Int) := match l, o with | [.dv (.int .i64) x0], [] => some (x0) | _, _ => none
def Qq (J : SL) (N : Nat) (fA : List eY) : Option (Int) :=
   cond ((fA.length : Int) == (0 : Int)) (some (1 : Int))
   (cond (decide ((fA.length : Int) > (6 : Int))) (some (2 : Int))
   ((J fA).bind fun r1 =>
   cond (r1) (some (3 : Int))
   (some (0 : Int))))
theorem awP (J : SL) (N : Nat) (fA : List eY) : bK (alD J) ax9 N arU aqF (bC Tryz.f121) 13 [.dv oI fA] [] abL = Qq J N fA := by kernel_rfl
theorem az1 (J : SL) (auO : aC prog 131 (NI J)) (a : (List eY) -> Option (Int)) (h : ∀ fA r, a fA = some r -> (∃ N, Qq J N fA = some r)) : aC prog 121 (NC a) := by
 intro args Of x hx
 simp only [NC] at hx
 split at hx
 ·rename_i fA
  obtain ⟨N, hN⟩ := h _ _ hx
  refine dS func121 (by kernel_rfl) (by kernel_rfl) rfl (dK auO dQ) ((awP J N _).trans hN) fun l o hd => ?_
  simp only [abL] at hd
  split at hd
  ·obtain rfl := aB hd; exact ⟨rfl, rfl⟩
  ·cases hd
 ·cases hx
def alA (G : CV) (K : CW) : Env := dD TI TY [(120, EU G), (121, NC K)] aY aW
def aqC : Code := dB Tryz.f108
def ax5 : Nat -> Option Norm := dH []
def arQ : End := ⟨[], ⟨[17], [], [], []⟩⟩
def abH (l : List TV) (o : List (Nat × TO)) : Option (Int) := match l, o with | [.dv (.int .i64) x0], [] => some (x0) | _, _ => none
def Qn (G : CV) (K : CW) (N : Nat) (aV : Int) (hx1 : Int) (aS : List eY) : Option (Int) :=
   (G (1 : Int) aV (12 : Int)).bind fun r1 =>
   cond (!r1) (some (3 : Int))
   ((G (1 : Int) hx1 (12 : Int)).bind fun r2 =>
   cond (!r2) (some (3 : Int))
   ((K aS).bind fun r3 =>
   some r3))
theorem awK (G : CV) (K : CW) (N : Nat) (aV : Int) (hx1 : Int) (aS : List eY) : bK (alA G K) ax5 N arQ aqC (bC Tryz.f108) 14 [.dv (.int .i64) aV, .dv (.int .i64) hx1, .dv oI aS] [] abH = Qn G K N aV hx1 aS := by kernel_rfl
theorem azU (G : CV) (K : CW) (Nv : aC prog 120 (EU G)) (auK : aC prog 121 (NC K)) (a : Int -> Int -> (List eY) -> Option (Int)) (h : ∀ aV hx1 aS r, a aV hx1 aS = some r -> (∃ N, Qn G K N aV hx1 aS = some r)) : aC prog 108 (MV a) := by
 intro args Of x hx
 simp only [MV] at hx
 split at hx
 ·rename_i aV hx1 aS
  obtain ⟨N, hN⟩ := h _ _ _ _ hx
  refine dS func108 (by kernel_rfl) (by kernel_rfl) rfl (dK Nv (dK auK dQ)) ((awK G K N _ _ _).trans hN) fun l o hd => ?_
  simp only [abH] at hd
  split at hd
  ·obtain rfl := aB hd; exact ⟨rfl, rfl⟩
  ·cases hd
 ·cases hx
def SV : Env := dD TI TY [] aY aW
def X9 : Code := dB Tryz.f122
def afU : Norm := ⟨[0, 1, 8, 9, 12, 13, 14], [], [], []⟩
def Ba : Nat -> Option Norm := dH [(3, afU)]
def Jt : End := ⟨[], ⟨[35, 36], [], [], []⟩⟩
def YV (l : List TV) (o : List (Nat × TO)) : Option (Int × Bool) := match l, o with | [.dv (.int .i64) x0, .dv (.bool) x1], [] => some (x0, x1) | _, _ => none
def JZ (aV : Int) (hx1 : Int) (aS : List eY) (qR : Int) (tH : Bool) (fH : Int) : TS := ⟨slots 35 [(0, .dv (.int .i64) aV), (1, .dv (.int .i64) hx1), (8, .dv (.int .i64) qR), (9, .dv (.bool) tH), (12, .dv oI aS), (13, .dv (.int .i64) (aS.length : Int)), (14, .dv (.int .i64) fH)], []⟩
def anC (N : Nat) : dC (Int × Bool) := fG (SV) Ba N X9 [1, 1, 0, 1, 0] (fin TI Jt (bC Tryz.f122) YV)
def JW (N : Nat) (m : Nat) : TS -> Option (Int × Bool) := eX (den (SV) Ba N (sub X9 [1, 1, 0, 1, 0, 0])) (TS.norm afU) (anC N) m
def KX (N : Nat) (aV : Int) (hx1 : Int) (aS : List eY) : Nat -> Int -> Bool -> Int -> Option (Int × Bool)
 | 0, _, _, _ => none
 | n + 1, qR, tH, fH => cond (decide (fH < (aS.length : Int))) (chk (decide (0 <= fH /\ fH < (aS.length : Int))) (cond (((aS.getD fH.toNat ((0 : Int), ((0 : Int), ((0 : Int), ())))).1) == aV) (cond ((((aS.getD fH.toNat ((0 : Int), ((0 : Int), ((0 : Int), ())))).2).1) == hx1) ((KX N aV hx1 aS n (imax qR ((((aS.getD fH.toNat ((0 : Int), ((0 : Int), ((0 : Int), ())))).2).2).1)) true (aH (fH + 1))))
   ((KX N aV hx1 aS n qR tH (aH (fH + 1)))))
   ((KX N aV hx1 aS n qR tH (aH (fH + 1))))))
   (some (qR, tH))
theorem aGM (N : Nat) (aV : Int) (hx1 : Int) (aS : List eY) (m : Nat) (qR : Int) (tH : Bool) (fH : Int) : JW N (m + 1) (JZ aV hx1 aS qR tH fH) = cond (decide (fH < (aS.length : Int))) (chk (decide (0 <= fH /\ fH < (aS.length : Int))) (cond (((aS.getD fH.toNat ((0 : Int), ((0 : Int), ((0 : Int), ())))).1) == aV) (cond ((((aS.getD fH.toNat ((0 : Int), ((0 : Int), ((0 : Int), ())))).2).1) == hx1) ((JW N m (JZ aV hx1 aS (imax qR ((((aS.getD fH.toNat ((0 : Int), ((0 : Int), ((0 : Int), ())))).2).2).1)) true (aH (fH + 1)))))
   ((JW N m (JZ aV hx1 aS qR tH (aH (fH + 1))))))
   ((JW N m (JZ aV hx1 aS qR tH (aH (fH + 1)))))))
   (some (qR, tH)) := by kernel_rfl
theorem ahZ (N : Nat) (aV : Int) (hx1 : Int) (aS : List eY) : ∀ (m : Nat) (qR : Int) (tH : Bool) (fH : Int), JW N m (JZ aV hx1 aS qR tH fH) = KX N aV hx1 aS m qR tH fH
        | 0, _, _, _ => rfl
        | m + 1, qR, tH, fH => by rw [aGM]; simp only [KX, ahZ N aV hx1 aS m]
def Cm (N : Nat) (aV : Int) (hx1 : Int) (aS : List eY) : Option (Int × Bool) :=
   (KX N aV hx1 aS N (0 : Int) false (0 : Int))
theorem aHQ (N : Nat) (aV : Int) (hx1 : Int) (aS : List eY) : bK (SV) Ba N Jt X9 (bC Tryz.f122) 32 [.dv (.int .i64) aV, .dv (.int .i64) hx1, .dv oI aS] [] YV = (JW N N (JZ aV hx1 aS (0 : Int) false (0 : Int))) := by kernel_rfl
theorem awQ (N : Nat) (aV : Int) (hx1 : Int) (aS : List eY) : bK (SV) Ba N Jt X9 (bC Tryz.f122) 32 [.dv (.int .i64) aV, .dv (.int .i64) hx1, .dv oI aS] [] YV = Cm N aV hx1 aS := by rw [aHQ]; simp only [Cm, ahZ]
theorem az2 (a : Int -> Int -> (List eY) -> Option (Int × Bool)) (h : ∀ aV hx1 aS r, a aV hx1 aS = some r -> (∃ N, Cm N aV hx1 aS = some r)) : aC prog 122 (ND a) := by
 intro args Of x hx
 simp only [ND] at hx
 split at hx
 ·rename_i aV hx1 aS
  obtain ⟨N, hN⟩ := h _ _ _ _ hx
  refine dS func122 (by kernel_rfl) (by kernel_rfl) rfl dQ ((awQ N _ _ _).trans hN) fun l o hd => ?_
  simp only [YV] at hd
  split at hd
  ·obtain rfl := aB hd; exact ⟨rfl, rfl⟩
  ·cases hd
 ·cases hx
def alF : Env := dD TI TY [] aY aW
def c124 : Code := dB Tryz.f124
def ayA : Nat -> Option Norm := dH []
def arW : End := ⟨[], ⟨[24], [], [], []⟩⟩
def abN (l : List TV) (o : List (Nat × TO)) : Option (Bool) := match l, o with | [.dv (.bool) x0], [] => some (x0) | _, _ => none
def Qs (N : Nat) (dY : Int × Int × Bool × (Bool × Int × Unit) × Unit) (o1 : Int × Int × Bool × (Bool × Int × Unit) × Unit) : Option (Bool) :=
   cond (decide (dY.1 > o1.1)) (some true)
   (cond (dY.1 == o1.1) (some (decide (dY.2.1 < o1.2.1)))
   (some false))
theorem awS (N : Nat) (dY : Int × Int × Bool × (Bool × Int × Unit) × Unit) (o1 : Int × Int × Bool × (Bool × Int × Unit) × Unit) : bK (alF) ayA N arW c124 (bC Tryz.f124) 22 [.dv AX dY, .dv AX o1] [] abN = Qs N dY o1 := by kernel_rfl
theorem az4 (a : (Int × Int × Bool × (Bool × Int × Unit) × Unit) -> (Int × Int × Bool × (Bool × Int × Unit) × Unit) -> Option (Bool)) (h : ∀ dY o1 r, a dY o1 = some r -> (∃ N, Qs N dY o1 = some r)) : aC prog 124 (NG a) := by
 intro args Of x hx
 simp only [NG] at hx
 split at hx
 ·rename_i dY o1
  obtain ⟨N, hN⟩ := h _ _ _ hx
  refine dS func124 (by kernel_rfl) (by kernel_rfl) rfl dQ ((awS N _ _).trans hN) fun l o hd => ?_
  simp only [abN] at hd
  split at hd
  ·obtain rfl := aB hd; exact ⟨rfl, rfl⟩
  ·cases hd
 ·cases hx
def alE (M : SN) : Env := dD TI TY [(124, NG M)] aY aW
def aqG : Code := dB Tryz.f123
def ax' : Nat -> Option Norm := dH []
def arV : End := ⟨[], ⟨[], [9000, 9001], [], []⟩⟩
def abM (l : List TV) (o : List (Nat × TO)) : Option (Nat × Nat × List (List (List (Int × Int × Bool × (Bool × Int × Unit) × Unit)))) := match l, o with | [], [(9000, .aP [.ptr 9001 0 [x0, x1]]), (9001, .row (.arr 13 (.arr 13 (.pair (.int .i64) (.pair (.int .i64) (.pair (.bool) (.pair (.pair (.bool) (.pair (.int .i64) (.unit))) (.unit))))))) x2)] => some (x0, x1, x2) | _, _ => none
def Qr (M : SN) (N : Nat) (x0 : Int × Int × Bool × (Bool × Int × Unit) × Unit) (y1 : Int × Int × Bool × (Bool × Int × Unit) × Unit) (sU : Bool × Int × Unit) (p3 : Nat) (p4 : Nat) (p5 : List o9) : Option (Nat × Nat × List o9) :=
   (M (aH (x0.1 + y1.1), (aH (x0.2.1 + y1.2.1), (false, (sU, ())))) (((p5.getD 0 lF).getD p3 jP).getD p4 lS)).bind fun r1 =>
   cond (r1) (chk ((decide (p3 < (p5.getD 0 lF).length)) && ((decide (p4 < ((p5.getD 0 lF).getD p3 jP).length)) && (true))) (some (p3, p4, p5.set 0 ((p5.getD 0 lF).set p3 (((p5.getD 0 lF).getD p3 jP).set p4 (aH (x0.1 + y1.1), (aH (x0.2.1 + y1.2.1), (false, (sU, ())))))))))
   (some (p3, p4, p5))
theorem awR (M : SN) (N : Nat) (x0 : Int × Int × Bool × (Bool × Int × Unit) × Unit) (y1 : Int × Int × Bool × (Bool × Int × Unit) × Unit) (sU : Bool × Int × Unit) (p3 : Nat) (p4 : Nat) (p5 : List o9) : bK (alE M) ax' N arV aqG (bC Tryz.f123) 24 [.dv AX x0, .dv AX y1, .dv (.pair (.bool) (.pair (.int .i64) (.unit))) sU, .ptr 9000 0 [0]] [(9000, .aP [.ptr 9001 0 [p3, p4]]), (9001, .row (.arr 13 (.arr 13 AX)) p5)] abM = Qr M N x0 y1 sU p3 p4 p5 := by kernel_rfl
theorem az3 (M : SN) (auM : aC prog 124 (NG M)) (a : (Int × Int × Bool × (Bool × Int × Unit) × Unit) -> (Int × Int × Bool × (Bool × Int × Unit) × Unit) -> (Bool × Int × Unit) -> Nat -> Nat -> (List o9) -> Option (Nat × Nat × List o9)) (h : ∀ x0 y1 sU p3 p4 p5 r, a x0 y1 sU p3 p4 p5 = some r -> (∃ N, Qr M N x0 y1 sU p3 p4 p5 = some r)) : aC prog 123 (NF a) := by
 intro args Of x hx
 simp only [NF] at hx
 split at hx
 ·rename_i x0 y1 sU p3 p4 p5
  obtain ⟨N, hN⟩ := h _ _ _ _ _ _ _ hx
  refine dS func123 (by kernel_rfl) (by kernel_rfl) rfl (dK auM dQ) ((awR M N _ _ _ _ _ _).trans hN) fun l o hd => ?_
  simp only [abM] at hd
  split at hd
  ·obtain rfl := aB hd; exact ⟨rfl, rfl⟩
  ·cases hd
 ·cases hx
def yN (C : kQ) (B : kR) : Env := dD TI TY [(122, ND C), (123, NF B)] aY aW
def c109 : Code := dB Tryz.f109
def Ti : Norm := ⟨[0, 1, 2, 7, 8], [17], [], []⟩
def Ei : Norm := ⟨[0, 1, 2, 7, 8, 9], [17], [], []⟩
def afP : Norm := ⟨[0, 1, 2, 7, 8, 9, 13, 14], [17, 10], [], []⟩
def afQ : Norm := ⟨[0, 1, 2, 7, 8, 9, 13, 15], [17, 10], [], []⟩
def zG : Nat -> Option Norm := dH [(3, Ti), (6, Ei), (14, afP), (18, afQ)]
def Jr : End := ⟨[], ⟨[99], [17], [], []⟩⟩
def YT (l : List TV) (o : List (Nat × TO)) : Option (List (List (List (Int × Int × Bool × (Bool × Int × Unit) × Unit)))) := match l, o with | [.ptr 17 0 []], [(17, .row (.arr 13 (.arr 13 (.pair (.int .i64) (.pair (.int .i64) (.pair (.bool) (.pair (.pair (.bool) (.pair (.int .i64) (.unit))) (.unit))))))) x0)] => some (x0) | _, _ => none
def V7 (aV : Int) (hx1 : Int) (aS : List eY) (A : Int) (bY : Int) (kL : Int) (qP : vI) (zK : Nat) (zL : Nat) : TS := ⟨slots 99 [(0, .dv (.int .i64) aV), (1, .dv (.int .i64) hx1), (2, .dv oI aS), (7, .ptr 17 0 []), (8, .dv (.int .i64) A), (9, .dv (.int .i64) bY), (13, .fn 123 0 1 fun i => ([.ptr 10 0 [0]] : List TV).getD i .any), (15, .dv (.int .i64) kL)], [(17, .row (.arr 13 (.arr 13 AX)) qP), (10, .aP [.ptr 17 0 [zK, zL]])]⟩
def OI (aV : Int) (hx1 : Int) (aS : List eY) (A : Int) (bY : Int) (kK : Int) (qO : vI) (wB : Nat) (wC : Nat) : TS := ⟨slots 99 [(0, .dv (.int .i64) aV), (1, .dv (.int .i64) hx1), (2, .dv oI aS), (7, .ptr 17 0 []), (8, .dv (.int .i64) A), (9, .dv (.int .i64) bY), (13, .fn 123 0 1 fun i => ([.ptr 10 0 [0]] : List TV).getD i .any), (14, .dv (.int .i64) kK)], [(17, .row (.arr 13 (.arr 13 AX)) qO), (10, .aP [.ptr 17 0 [wB, wC]])]⟩
def JY (aV : Int) (hx1 : Int) (aS : List eY) (A : Int) (bY : Int) (mP : vI) : TS := ⟨slots 99 [(0, .dv (.int .i64) aV), (1, .dv (.int .i64) hx1), (2, .dv oI aS), (7, .ptr 17 0 []), (8, .dv (.int .i64) A), (9, .dv (.int .i64) bY)], [(17, .row (.arr 13 (.arr 13 AX)) mP)]⟩
def OH (aV : Int) (hx1 : Int) (aS : List eY) (A : Int) (lU : vI) : TS := ⟨slots 99 [(0, .dv (.int .i64) aV), (1, .dv (.int .i64) hx1), (2, .dv oI aS), (7, .ptr 17 0 []), (8, .dv (.int .i64) A)], [(17, .row (.arr 13 (.arr 13 AX)) lU)]⟩
def Zn (C : kQ) (B : kR) (N : Nat) : dC (List (List (List (Int × Int × Bool × (Bool × Int × Unit) × Unit)))) := fG (yN C B) zG N c109 [1, 1, 0, 1, 0] (fin TI Jr (bC Tryz.f109) YT)
def UX (C : kQ) (B : kR) (N : Nat) (m : Nat) : TS -> Option (List (List (List (Int × Int × Bool × (Bool × Int × Unit) × Unit)))) := eX (den (yN C B) zG N (sub c109 [1, 1, 0, 1, 0, 0])) (TS.norm Ti) (Zn C B N) m
def Ip (C : kQ) (B : kR) (N : Nat) (iL : nH) : dC (List (List (List (Int × Int × Bool × (Bool × Int × Unit) × Unit)))) := fG (yN C B) zG N (sub c109 [1, 1, 0, 1, 0, 0]) [1, 0, 0, 1, 0] (tK (TS.norm Ti) (Zn C B N) iL)
def OC (C : kQ) (B : kR) (N : Nat) (iL : nH) (m : Nat) : TS -> Option (List (List (List (Int × Int × Bool × (Bool × Int × Unit) × Unit)))) := eX (den (yN C B) zG N (sub c109 [1, 1, 0, 1, 0, 0, 1, 0, 0, 1, 0, 0])) (TS.norm Ei) (Ip C B N iL) m
def am5 (C : kQ) (B : kR) (N : Nat) (iL : nH) (lQ : nH) : dC (List (List (List (Int × Int × Bool × (Bool × Int × Unit) × Unit)))) := fG (yN C B) zG N (sub c109 [1, 1, 0, 1, 0, 0, 1, 0, 0, 1, 0, 0]) [1, 0, 0, 1, 1, 1, 0, 1, 0] (tK (TS.norm Ei) (Ip C B N iL) lQ)
def OD (C : kQ) (B : kR) (N : Nat) (iL : nH) (lQ : nH) (m : Nat) : TS -> Option (List (List (List (Int × Int × Bool × (Bool × Int × Unit) × Unit)))) := eX (den (yN C B) zG N (sub c109 [1, 1, 0, 1, 0, 0, 1, 0, 0, 1, 0, 0, 1, 0, 0, 1, 1, 1, 0, 1, 0, 0])) (TS.norm afP) (am5 C B N iL lQ) m
def am6 (C : kQ) (B : kR) (N : Nat) (iL : nH) (lQ : nH) : dC (List (List (List (Int × Int × Bool × (Bool × Int × Unit) × Unit)))) := fG (yN C B) zG N (sub c109 [1, 1, 0, 1, 0, 0, 1, 0, 0, 1, 0, 0]) [1, 0, 0, 1, 1, 1, 1, 1, 0] (tK (TS.norm Ei) (Ip C B N iL) lQ)
def UY (C : kQ) (B : kR) (N : Nat) (iL : nH) (lQ : nH) (m : Nat) : TS -> Option (List (List (List (Int × Int × Bool × (Bool × Int × Unit) × Unit)))) := eX (den (yN C B) zG N (sub c109 [1, 1, 0, 1, 0, 0, 1, 0, 0, 1, 0, 0, 1, 0, 0, 1, 1, 1, 1, 1, 0, 0])) (TS.norm afQ) (am6 C B N iL lQ) m
def Ah (C : kQ) (B : kR) (N : Nat) (aV : Int) (hx1 : Int) (aS : List eY) (A : Int) (bY : Int) (QB : Hu) : Nat -> Int -> (List o9) -> Nat -> Nat -> Option (List o9)
 | 0, _, _, _, _ => none
 | n + 1, kL, qP, zK, zL => cond (decide (kL < bY)) (chk (decide (0 <= A /\ A < (13 : Int))) (chk (decide (0 <= kL /\ kL < (13 : Int))) (chk (decide (0 <= A /\ A < (13 : Int))) (chk (decide (0 <= aH (bY - kL) /\ aH (bY - kL) < (13 : Int))) ((B (((qP.getD 0 lF).getD A.toNat jP).getD kL.toNat lS) (((qP.getD 0 lF).getD A.toNat jP).getD ((aH (bY - kL)).toNat) lS) (false, (kL, ())) zK zL qP).bind fun r3 =>
   (Ah C B N aV hx1 aS A bY QB n (aH (kL + 1)) r3.2.2 r3.1 r3.2.1))))))
   ((QB (aH (bY + 1)) qP))
theorem aGI (C : kQ) (B : kR) (N : Nat) (aV : Int) (hx1 : Int) (aS : List eY) (A : Int) (bY : Int) (iL : nH) (lQ : nH) (m : Nat) (kL : Int) (qP : vI) (zK : Nat) (zL : Nat) : UY C B N iL lQ (m + 1) (V7 aV hx1 aS A bY kL qP zK zL) = cond (decide (kL < bY)) (chk (decide (0 <= A /\ A < (13 : Int))) (chk (decide (0 <= kL /\ kL < (13 : Int))) (chk (decide (0 <= A /\ A < (13 : Int))) (chk (decide (0 <= aH (bY - kL) /\ aH (bY - kL) < (13 : Int))) ((B (((qP.getD 0 lF).getD A.toNat jP).getD kL.toNat lS) (((qP.getD 0 lF).getD A.toNat jP).getD ((aH (bY - kL)).toNat) lS) (false, (kL, ())) zK zL qP).bind fun r3 =>
   (UY C B N iL lQ m (V7 aV hx1 aS A bY (aH (kL + 1)) r3.2.2 r3.1 r3.2.1)))))))
   ((lQ (JY aV hx1 aS A (aH (bY + 1)) qP))) := by kernel_rfl
theorem ahV (C : kQ) (B : kR) (N : Nat) (aV : Int) (hx1 : Int) (aS : List eY) (A : Int) (bY : Int) (iL : nH) (lQ : nH) : ∀ (m : Nat) (kL : Int) (qP : vI) (zK : Nat) (zL : Nat), UY C B N iL lQ m (V7 aV hx1 aS A bY kL qP zK zL) = Ah C B N aV hx1 aS A bY (fun y0 y1 => lQ (JY aV hx1 aS A y0 y1)) m kL qP zK zL
        | 0, _, _, _, _ => rfl
        | m + 1, kL, qP, zK, zL => by rw [aGI]; simp only [Ah, ahV C B N aV hx1 aS A bY iL lQ m]
def QC (C : kQ) (B : kR) (N : Nat) (aV : Int) (hx1 : Int) (aS : List eY) (A : Int) (bY : Int) (QB : Hu) : Nat -> Int -> (List o9) -> Nat -> Nat -> Option (List o9)
 | 0, _, _, _, _ => none
 | n + 1, kK, qO, wB, wC => cond (decide (kK < A)) (chk (decide (0 <= kK /\ kK < (13 : Int))) (chk (decide (0 <= bY /\ bY < (13 : Int))) (chk (decide (0 <= aH (A - kK) /\ aH (A - kK) < (13 : Int))) (chk (decide (0 <= bY /\ bY < (13 : Int))) ((B (((qO.getD 0 lF).getD kK.toNat jP).getD bY.toNat lS) (((qO.getD 0 lF).getD ((aH (A - kK)).toNat) jP).getD bY.toNat lS) (true, (kK, ())) wB wC qO).bind fun r2 =>
   (QC C B N aV hx1 aS A bY QB n (aH (kK + 1)) r2.2.2 r2.1 r2.2.1))))))
   ((Ah C B N aV hx1 aS A bY QB N (1 : Int) qO wB wC))
theorem aGH (C : kQ) (B : kR) (N : Nat) (aV : Int) (hx1 : Int) (aS : List eY) (A : Int) (bY : Int) (iL : nH) (lQ : nH) (m : Nat) (kK : Int) (qO : vI) (wB : Nat) (wC : Nat) : OD C B N iL lQ (m + 1) (OI aV hx1 aS A bY kK qO wB wC) = cond (decide (kK < A)) (chk (decide (0 <= kK /\ kK < (13 : Int))) (chk (decide (0 <= bY /\ bY < (13 : Int))) (chk (decide (0 <= aH (A - kK) /\ aH (A - kK) < (13 : Int))) (chk (decide (0 <= bY /\ bY < (13 : Int))) ((B (((qO.getD 0 lF).getD kK.toNat jP).getD bY.toNat lS) (((qO.getD 0 lF).getD ((aH (A - kK)).toNat) jP).getD bY.toNat lS) (true, (kK, ())) wB wC qO).bind fun r2 =>
   (OD C B N iL lQ m (OI aV hx1 aS A bY (aH (kK + 1)) r2.2.2 r2.1 r2.2.1)))))))
   ((UY C B N iL lQ N (V7 aV hx1 aS A bY (1 : Int) qO wB wC))) := by kernel_rfl
theorem ahU (C : kQ) (B : kR) (N : Nat) (aV : Int) (hx1 : Int) (aS : List eY) (A : Int) (bY : Int) (iL : nH) (lQ : nH) : ∀ (m : Nat) (kK : Int) (qO : vI) (wB : Nat) (wC : Nat), OD C B N iL lQ m (OI aV hx1 aS A bY kK qO wB wC) = QC C B N aV hx1 aS A bY (fun y0 y1 => lQ (JY aV hx1 aS A y0 y1)) m kK qO wB wC
        | 0, _, _, _, _ => rfl
        | m + 1, kK, qO, wB, wC => by rw [aGH]; simp only [QC, ahV, ahU C B N aV hx1 aS A bY iL lQ m]
def QA (C : kQ) (B : kR) (N : Nat) (aV : Int) (hx1 : Int) (aS : List eY) (A : Int) (Qh : Hu) : Nat -> Int -> (List o9) -> Option (List o9)
 | 0, _, _ => none
 | n + 1, bY, mP => cond (decide (bY <= hx1)) (chk (decide (0 <= A /\ A < (13 : Int))) (chk (decide (0 <= bY /\ bY < (13 : Int))) ((C A bY aS).bind fun r1 =>
   cond (decide (r1.1 > (0 : Int))) (chk ((decide (A.toNat < (mP.getD 0 lF).length)) && ((decide (bY.toNat < ((mP.getD 0 lF).getD A.toNat jP).length)) && (true))) ((QC C B N aV hx1 aS A bY (fun y0 y1 => (QA C B N aV hx1 aS A Qh n y0 y1)) N (1 : Int) (mP.set 0 ((mP.getD 0 lF).set A.toNat (((mP.getD 0 lF).getD A.toNat jP).set bY.toNat (r1.1, ((1 : Int), (true, ((false, ((0 : Int), ())), ()))))))) A.toNat bY.toNat)))
   ((QC C B N aV hx1 aS A bY (fun y0 y1 => (QA C B N aV hx1 aS A Qh n y0 y1)) N (1 : Int) mP A.toNat bY.toNat)))))
   ((Qh (aH (A + 1)) mP))
theorem aGG (C : kQ) (B : kR) (N : Nat) (aV : Int) (hx1 : Int) (aS : List eY) (A : Int) (iL : nH) (m : Nat) (bY : Int) (mP : vI) : OC C B N iL (m + 1) (JY aV hx1 aS A bY mP) = cond (decide (bY <= hx1)) (chk (decide (0 <= A /\ A < (13 : Int))) (chk (decide (0 <= bY /\ bY < (13 : Int))) ((C A bY aS).bind fun r1 =>
   cond (decide (r1.1 > (0 : Int))) (chk ((decide (A.toNat < (mP.getD 0 lF).length)) && ((decide (bY.toNat < ((mP.getD 0 lF).getD A.toNat jP).length)) && (true))) ((OD C B N iL (OC C B N iL m) N (OI aV hx1 aS A bY (1 : Int) (mP.set 0 ((mP.getD 0 lF).set A.toNat (((mP.getD 0 lF).getD A.toNat jP).set bY.toNat (r1.1, ((1 : Int), (true, ((false, ((0 : Int), ())), ()))))))) A.toNat bY.toNat))))
   ((OD C B N iL (OC C B N iL m) N (OI aV hx1 aS A bY (1 : Int) mP A.toNat bY.toNat))))))
   ((iL (OH aV hx1 aS (aH (A + 1)) mP))) := by kernel_rfl
theorem ahT (C : kQ) (B : kR) (N : Nat) (aV : Int) (hx1 : Int) (aS : List eY) (A : Int) (iL : nH) : ∀ (m : Nat) (bY : Int) (mP : vI), OC C B N iL m (JY aV hx1 aS A bY mP) = QA C B N aV hx1 aS A (fun y0 y1 => iL (OH aV hx1 aS y0 y1)) m bY mP
        | 0, _, _ => rfl
        | m + 1, bY, mP => by rw [aGG]; simp only [QA, ahU, ahT C B N aV hx1 aS A iL m]
def Ag (C : kQ) (B : kR) (N : Nat) (aV : Int) (hx1 : Int) (aS : List eY) : Nat -> Int -> (List o9) -> Option (List o9)
 | 0, _, _ => none
 | n + 1, A, lU => cond (decide (A <= aV)) ((QA C B N aV hx1 aS A (fun y0 y1 => (Ag C B N aV hx1 aS n y0 y1)) N (1 : Int) lU))
   (some lU)
theorem aGF (C : kQ) (B : kR) (N : Nat) (aV : Int) (hx1 : Int) (aS : List eY) (m : Nat) (A : Int) (lU : vI) : UX C B N (m + 1) (OH aV hx1 aS A lU) = cond (decide (A <= aV)) ((OC C B N (UX C B N m) N (JY aV hx1 aS A (1 : Int) lU)))
   (some lU) := by kernel_rfl
theorem ahS (C : kQ) (B : kR) (N : Nat) (aV : Int) (hx1 : Int) (aS : List eY) : ∀ (m : Nat) (A : Int) (lU : vI), UX C B N m (OH aV hx1 aS A lU) = Ag C B N aV hx1 aS m A lU
        | 0, _, _ => rfl
        | m + 1, A, lU => by rw [aGF]; simp only [Ag, ahT, ahS C B N aV hx1 aS m]
def Cj (C : kQ) (B : kR) (N : Nat) (aV : Int) (hx1 : Int) (aS : List eY) : Option (List o9) :=
   (Ag C B N aV hx1 aS N (1 : Int) ([lF] : List o9))
theorem aHN (C : kQ) (B : kR) (N : Nat) (aV : Int) (hx1 : Int) (aS : List eY) : bK (yN C B) zG N Jr c109 (bC Tryz.f109) 96 [.dv (.int .i64) aV, .dv (.int .i64) hx1, .dv oI aS] [] YT = (UX C B N N (OH aV hx1 aS (1 : Int) ([lF] : List o9))) := by kernel_rfl
theorem awL (C : kQ) (B : kR) (N : Nat) (aV : Int) (hx1 : Int) (aS : List eY) : bK (yN C B) zG N Jr c109 (bC Tryz.f109) 96 [.dv (.int .i64) aV, .dv (.int .i64) hx1, .dv oI aS] [] YT = Cj C B N aV hx1 aS := by rw [aHN]; simp only [Cj, ahS]
theorem azV (C : kQ) (B : kR) (h122 : aC prog 122 (ND C)) (auL : aC prog 123 (NF B)) (a : Int -> Int -> (List eY) -> Option (List o9)) (h : ∀ aV hx1 aS r, a aV hx1 aS = some r -> (∃ N, Cj C B N aV hx1 aS = some r)) : aC prog 109 (MW a) := by
 intro args Of x hx
 simp only [MW] at hx
 split at hx
 ·rename_i aV hx1 aS
  obtain ⟨N, hN⟩ := h _ _ _ _ hx
  refine dS func109 (by kernel_rfl) (by kernel_rfl) rfl (dK h122 (dK auL dQ)) ((awL C B N _ _ _).trans hN) fun l o hd => ?_
  simp only [YT] at hd
  split at hd
  ·obtain rfl := aB hd; exact ⟨rfl, rfl⟩
  ·cases hd
 ·cases hx
def E94 (P : SI) (Q : SK) : Env := dD TI TY [(108, MV P), (109, MW Q)] aY aW
def c94 : Code := dB Tryz.f94
def ayZ : Nat -> Option Norm := dH []
def asN : End := ⟨[], ⟨[27, 28], [], [], []⟩⟩
def acF (l : List TV) (o : List (Nat × TO)) : Option (Int × Int) := match l, o with | [.dv (.int .i64) x0, .dv (.int .i64) x1], [] => some (x0, x1) | _, _ => none
def Rz (P : SI) (Q : SK) (N : Nat) (aV : Int) (hx1 : Int) (aS : List eY) : Option (Int × Int) :=
   (P aV hx1 aS).bind fun r1 =>
   cond (r1 != (0 : Int)) (some ((0 : Int), r1))
   ((Q aV hx1 aS).bind fun r2 =>
   chk (decide (0 <= aV /\ aV < (13 : Int))) (chk (decide (0 <= hx1 /\ hx1 < (13 : Int))) (some ((((r2.getD 0 lF).getD aV.toNat jP).getD hx1.toNat lS).1, (0 : Int)))))
theorem k94 (P : SI) (Q : SK) (N : Nat) (aV : Int) (hx1 : Int) (aS : List eY) : bK (E94 P Q) ayZ N asN c94 (bC Tryz.f94) 24 [.dv (.int .i64) aV, .dv (.int .i64) hx1, .dv oI aS] [] acF = Rz P Q N aV hx1 aS := by kernel_rfl
theorem aA8 (P : SI) (Q : SK) (auH : aC prog 108 (MV P)) (auI : aC prog 109 (MW Q)) (a : Int -> Int -> (List eY) -> Option (Int × Int)) (h : ∀ aV hx1 aS r, a aV hx1 aS = some r -> (∃ N, Rz P Q N aV hx1 aS = some r)) : aC prog 94 (UE a) := by
 intro args Of x hx
 simp only [UE] at hx
 split at hx
 ·rename_i aV hx1 aS
  obtain ⟨N, hN⟩ := h _ _ _ _ hx
  refine dS func94 (by kernel_rfl) (by kernel_rfl) rfl (dK auH (dK auI dQ)) ((k94 P Q N _ _ _).trans hN) fun l o hd => ?_
  simp only [acF] at hd
  split at hd
  ·obtain rfl := aB hd; exact ⟨rfl, rfl⟩
  ·cases hd
 ·cases hx
end
end Go.Proofs.YtfopcfnggdonkaaGreatDoor
