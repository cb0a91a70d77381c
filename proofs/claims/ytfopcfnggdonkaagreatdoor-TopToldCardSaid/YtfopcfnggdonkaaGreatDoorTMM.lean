/-
 The functions that the law reaches, told as plain functions.
-/
import Derived.Test.YtfopcfnggdonkaaGreatDoorQFK
import Derived.Test.YtfopcfnggdonkaaGreatDoorWCM
namespace Go.Proofs.YtfopcfnggdonkaaGreatDoor
open Go.Proofs.Tryz
open Go.RowKit
set_option linter.unusedVariables false
noncomputable section
abbrev mX : DT := .pair (.int .i64) (.pair (.sl (.sl (.int .i64))) (.unit))
abbrev dS := (aN) -> Option (Int)
abbrev vC := (List Int) -> (List (aN)) -> Option (Bool × List (aN))
abbrev MM := List (aN)
abbrev ZM := LL -> (List (aN)) -> Option (Int × List (aN))
abbrev vF := Int -> Int -> Int -> Option (Bool)
abbrev AY := Int -> (List (aN)) -> Option (Bool × List (aN))
abbrev ZN := (List Int) -> (List (aN)) -> Option (Int × List (aN))
abbrev AZ := LL -> (List (aN)) -> Option (Bool × List (aN))
abbrev nS := (aN) -> (List Int) -> Option (Int)
abbrev nD := (List Int) -> (List Int) -> Option (Int)
def E35 : Env := dF TI TY [] aX aU
def c35 : Code := dE Tryz.f35
def ay7 : Nat -> Option Norm := dN []
def atQ : End := ⟨[], ⟨[8], [], [], []⟩⟩
def adT (l : List TV) (o : List (Nat × TO)) : Option (Int) := match l, o with | [.dv (.int .i64) x0], [] => some (x0) | _, _ => none
def Vx (N : Nat) (aG : aN) : Option (Int) :=
   chk (decide (0 <= (0 : Int) /\ (0 : Int) < (aG.2.1.length : Int))) (some ((aG.2.1.getD 0 ([] : List Int)).length : Int))
theorem k35 (N : Nat) (aG : aN) : bK (E35) ay7 N atQ c35 (aY Tryz.f35) 7 [.dv mX aG] [] adT = Vx N aG := by kernel_rfl
theorem aBF (a : (aN) -> Option (Int)) (h : ∀ aG r, a aG = some r -> (∃ N, Vx N aG = some r)) : aF prog 35 (wC a) := by
 intro args Of x hx
 simp only [wC] at hx
 split at hx
 ·rename_i aG
  obtain ⟨N, hN⟩ := h _ _ hx
  refine dZ func35 (by kernel_rfl) (by kernel_rfl) rfl dY ((k35 N _).trans hN) fun l o hd => ?_
  simp only [adT] at hd
  split at hd
  ·obtain rfl := aC hd; exact ⟨rfl, rfl⟩
  ·cases hd
 ·cases hx
def E39 : Env := dF TI TY [] aX aU
def c39 : Code := dE Tryz.f39
def ay9 : Nat -> Option Norm := dN []
def atT : End := ⟨[], ⟨[15], [], [], []⟩⟩
def adV (l : List TV) (o : List (Nat × TO)) : Option (Bool) := match l, o with | [.dv (.bool) x0], [] => some (x0) | _, _ => none
def Vz (N : Nat) (dR : Int) (n1 : Int) (hi2 : Int) : Option (Bool) :=
   cond (decide (dR <= n1)) (some (decide (n1 <= hi2)))
   (some false)
theorem k39 (N : Nat) (dR : Int) (n1 : Int) (hi2 : Int) : bK (E39) ay9 N atT c39 (aY Tryz.f39) 12 [.dv (.int .i64) dR, .dv (.int .i64) n1, .dv (.int .i64) hi2] [] adV = Vz N dR n1 hi2 := by kernel_rfl
theorem aBJ (a : Int -> Int -> Int -> Option (Bool)) (h : ∀ dR n1 hi2 r, a dR n1 hi2 = some r -> (∃ N, Vz N dR n1 hi2 = some r)) : aF prog 39 (AU a) := by
 intro args Of x hx
 simp only [AU] at hx
 split at hx
 ·rename_i dR n1 hi2
  obtain ⟨N, hN⟩ := h _ _ _ _ hx
  refine dZ func39 (by kernel_rfl) (by kernel_rfl) rfl dY ((k39 N _ _ _).trans hN) fun l o hd => ?_
  simp only [adV] at hd
  split at hd
  ·obtain rfl := aC hd; exact ⟨rfl, rfl⟩
  ·cases hd
 ·cases hx
def am2 (A : dS) : Env := dF TI TY [(35, wC A)] aX aU
def ar5 : Code := dE Tryz.f69
def azK : Nat -> Option Norm := dN []
def auC : End := ⟨[], ⟨[9], [9000], [], []⟩⟩
def ad8 (l : List TV) (o : List (Nat × TO)) : Option (Bool × List (aN)) := match l, o with | [.dv (.bool) x0], [(9000, .row (.pair (.int .i64) (.pair (.sl (.sl (.int .i64))) (.unit))) x1)] => some (x0, x1) | _, _ => none
def Wu (A : dS) (N : Nat) (aT : List Int) (p1 : List (aN)) : Option (Bool × List (aN)) :=
   (A (p1.getD 0 ((0 : Int), (([] : LL), ())))).bind fun r1 =>
   some ((aT.length : Int) != r1, p1)
theorem ax3 (A : dS) (N : Nat) (aT : List Int) (p1 : List (aN)) : bK (am2 A) azK N auC ar5 (aY Tryz.f69) 7 [.dv (.sl (.int .i64)) aT, .ptr 9000 0 []] [(9000, .row mX p1)] ad8 = Wu A N aT p1 := by kernel_rfl
theorem aBW (A : dS) (h35 : aF prog 35 (wC A)) (a : (List Int) -> (List (aN)) -> Option (Bool × List (aN))) (h : ∀ aT p1 r, a aT p1 = some r -> (∃ N, Wu A N aT p1 = some r)) : aF prog 69 (LY a) := by
 intro args Of x hx
 simp only [LY] at hx
 split at hx
 ·rename_i aT p1
  obtain ⟨N, hN⟩ := h _ _ _ hx
  refine dZ func69 (by kernel_rfl) (by kernel_rfl) rfl (dK h35 dY) ((ax3 A N _ _).trans hN) fun l o hd => ?_
  simp only [ad8] at hd
  split at hd
  ·obtain rfl := aC hd; exact ⟨rfl, rfl⟩
  ·cases hd
 ·cases hx
def XC (J : vC) : Env := dF TI TY [(69, LY J)] aX aU
def Aj : Code := dE Tryz.f99
def ah4 : Norm := ⟨[0, 1, 7, 8], [9000], [], []⟩
def He : Nat -> Option Norm := dN [(2, ah4)]
def Qv : End := ⟨[], ⟨[19], [9000], [], []⟩⟩
def Df (l : List TV) (o : List (Nat × TO)) : Option (Int × List (aN)) := match l, o with | [.dv (.int .i64) x0], [(9000, .row (.pair (.int .i64) (.pair (.sl (.sl (.int .i64))) (.unit))) x1)] => some (x0, x1) | _, _ => none
def ZJ (s0 : LL) (bG : Int) (nN : MM) : TS := ⟨slots 19 [(0, .dv (.sl (.sl (.int .i64))) s0), (1, .fn 69 0 1 fun i => ([.ptr 9000 0 []] : List TV).getD i .any), (7, .dv (.int .i64) (s0.length : Int)), (8, .dv (.int .i64) bG)], [(9000, .row mX nN)]⟩
def apX (J : vC) (N : Nat) : dD (Int × List (aN)) := eH (XC J) He N Aj [1, 0, 1, 0] (fin TI Qv (aY Tryz.f99) Df)
def YU (J : vC) (N : Nat) (m : Nat) : TS -> Option (Int × List (aN)) := dW (den (XC J) He N (sub Aj [1, 0, 1, 0, 0])) (TS.norm ah4) (apX J N) m
def JS (J : vC) (N : Nat) (s0 : LL) : Nat -> Int -> (List (aN)) -> Option (Int × List (aN))
 | 0, _, _ => none
 | n + 1, bG, nN => cond (decide (bG < (s0.length : Int))) (chk (decide (0 <= bG /\ bG < (s0.length : Int))) ((J (s0.getD bG.toNat ([] : List Int)) nN).bind fun r1 =>
   cond (r1.1) (some (bG, r1.2))
   ((JS J N s0 n (aB (bG + 1)) r1.2))))
   (some ((-1 : Int), nN))
theorem aI4 (J : vC) (N : Nat) (s0 : LL) (m : Nat) (bG : Int) (nN : MM) : YU J N (m + 1) (ZJ s0 bG nN) = cond (decide (bG < (s0.length : Int))) (chk (decide (0 <= bG /\ bG < (s0.length : Int))) ((J (s0.getD bG.toNat ([] : List Int)) nN).bind fun r1 =>
   cond (r1.1) (some (bG, r1.2))
   ((YU J N m (ZJ s0 (aB (bG + 1)) r1.2)))))
   (some ((-1 : Int), nN)) := by kernel_rfl
theorem akN (J : vC) (N : Nat) (s0 : LL) : ∀ (m : Nat) (bG : Int) (nN : MM), YU J N m (ZJ s0 bG nN) = JS J N s0 m bG nN
        | 0, _, _ => rfl
        | m + 1, bG, nN => by rw [aI4]; simp only [JS, akN J N s0 m]
def Ip (J : vC) (N : Nat) (s0 : LL) (p1 : List (aN)) : Option (Int × List (aN)) :=
   (JS J N s0 N (0 : Int) p1)
theorem aJX (J : vC) (N : Nat) (s0 : LL) (p1 : List (aN)) : bK (XC J) He N Qv Aj (aY Tryz.f99) 17 [.dv (.sl (.sl (.int .i64))) s0, .fn 69 0 1 fun i => ([.ptr 9000 0 []] : List TV).getD i .any] [(9000, .row mX p1)] Df = (YU J N N (ZJ s0 (0 : Int) p1)) := by kernel_rfl
theorem ax7 (J : vC) (N : Nat) (s0 : LL) (p1 : List (aN)) : bK (XC J) He N Qv Aj (aY Tryz.f99) 17 [.dv (.sl (.sl (.int .i64))) s0, .fn 69 0 1 fun i => ([.ptr 9000 0 []] : List TV).getD i .any] [(9000, .row mX p1)] Df = Ip J N s0 p1 := by rw [aJX]; simp only [Ip, akN]
theorem aB8 (J : vC) (av6 : aF prog 69 (LY J)) (a : LL -> (List (aN)) -> Option (Int × List (aN))) (h : ∀ s0 p1 r, a s0 p1 = some r -> (∃ N, Ip J N s0 p1 = some r)) : aF prog 99 (MB a) := by
 intro args Of x hx
 simp only [MB] at hx
 split at hx
 ·rename_i s0 FP p1 rX
  have hc0 := congrArg (fun c : List (List TV) => c.getD 0 []) rX
  obtain ⟨N, hN⟩ := h _ _ _ hx
  refine iQ.D5 (args := [.dv (.sl (.sl (.int .i64))) s0, .fn 69 0 1 fun i => ([.ptr 9000 0 []] : List TV).getD i .any]) (O := [(9000, .row mX p1)]) ⟨TV.nP _, TV.zN hc0, trivial⟩ ⟨rfl, TO.nP _, trivial⟩ (lifted (L := [(69, LY J)]) (rc := aX) (fz := aU) (fn := Tryz.f99) (by kernel_rfl) (by kernel_rfl) (by kernel_rfl) (by kernel_rfl) rfl ?_ ((ax7 J N _ _).trans hN) ?_)
  ·intro p hp; simp only [List.mem_cons, List.not_mem_nil, or_false] at hp; rcases hp with rfl; exact av6
  ·intro l o hd
   simp only [Df] at hd
   split at hd
   ·obtain rfl := aC hd; exact ⟨rfl, rfl⟩
   ·cases hd
 ·cases hx
def am1 (P : ZM) : Env := dF TI TY [(99, MB P)] aX aU
def ar4 : Code := dE Tryz.f68
def azJ : Nat -> Option Norm := dN []
def auB : End := ⟨[], ⟨[9], [9000], [], []⟩⟩
def ad7 (l : List TV) (o : List (Nat × TO)) : Option (Bool × List (aN)) := match l, o with | [.dv (.bool) x0], [(9000, .row (.pair (.int .i64) (.pair (.sl (.sl (.int .i64))) (.unit))) x1)] => some (x0, x1) | _, _ => none
def Ws (P : ZM) (N : Nat) (s0 : LL) (p1 : List (aN)) : Option (Bool × List (aN)) :=
   (P s0 p1).bind fun r1 =>
   some (decide (r1.1 >= (0 : Int)), r1.2)
theorem ax2 (P : ZM) (N : Nat) (s0 : LL) (p1 : List (aN)) : bK (am1 P) azJ N auB ar4 (aY Tryz.f68) 7 [.dv (.sl (.sl (.int .i64))) s0, .fn 69 0 1 fun i => ([.ptr 9000 0 []] : List TV).getD i .any] [(9000, .row mX p1)] ad7 = Ws P N s0 p1 := by kernel_rfl
theorem aBV (P : ZM) (av9 : aF prog 99 (MB P)) (a : LL -> (List (aN)) -> Option (Bool × List (aN))) (h : ∀ s0 p1 r, a s0 p1 = some r -> (∃ N, Ws P N s0 p1 = some r)) : aF prog 68 (QK a) := by
 intro args Of x hx
 simp only [QK] at hx
 split at hx
 ·rename_i s0 FP p1 rX
  have hc0 := congrArg (fun c : List (List TV) => c.getD 0 []) rX
  obtain ⟨N, hN⟩ := h _ _ _ hx
  refine iQ.D5 (args := [.dv (.sl (.sl (.int .i64))) s0, .fn 69 0 1 fun i => ([.ptr 9000 0 []] : List TV).getD i .any]) (O := [(9000, .row mX p1)]) ⟨TV.nP _, TV.zN hc0, trivial⟩ ⟨rfl, TO.nP _, trivial⟩ (lifted (L := [(99, MB P)]) (rc := aX) (fz := aU) (fn := Tryz.f68) (by kernel_rfl) (by kernel_rfl) (by kernel_rfl) (by kernel_rfl) rfl ?_ ((ax2 P N _ _).trans hN) ?_)
  ·intro p hp; simp only [List.mem_cons, List.not_mem_nil, or_false] at hp; rcases hp with rfl; exact av9
  ·intro l o hd
   simp only [ad7] at hd
   split at hd
   ·obtain rfl := aC hd; exact ⟨rfl, rfl⟩
   ·cases hd
 ·cases hx
def amL (D : vF) : Env := dF TI TY [(39, AU D)] aX aU
def arR : Code := dE Tryz.f100
def ayQ : Nat -> Option Norm := dN []
def as9 : End := ⟨[], ⟨[10], [9000], [], []⟩⟩
def adC (l : List TV) (o : List (Nat × TO)) : Option (Bool × List (aN)) := match l, o with | [.dv (.bool) x0], [(9000, .row (.pair (.int .i64) (.pair (.sl (.sl (.int .i64))) (.unit))) x1)] => some (x0, x1) | _, _ => none
def Vg (D : vF) (N : Nat) (CO : Int) (p1 : List (aN)) : Option (Bool × List (aN)) :=
   (D (0 : Int) CO (aB (((p1.getD 0 ((0 : Int), (([] : LL), ()))).1) - (1 : Int)))).bind fun r1 =>
   some (!r1, p1)
theorem axF (D : vF) (N : Nat) (CO : Int) (p1 : List (aN)) : bK (amL D) ayQ N as9 arR (aY Tryz.f100) 8 [.dv (.int .i64) CO, .ptr 9000 0 []] [(9000, .row mX p1)] adC = Vg D N CO p1 := by kernel_rfl
theorem aAL (D : vF) (TL : aF prog 39 (AU D)) (a : Int -> (List (aN)) -> Option (Bool × List (aN))) (h : ∀ CO p1 r, a CO p1 = some r -> (∃ N, Vg D N CO p1 = some r)) : aF prog 100 (LK a) := by
 intro args Of x hx
 simp only [LK] at hx
 split at hx
 ·rename_i CO p1
  obtain ⟨N, hN⟩ := h _ _ _ hx
  refine dZ func100 (by kernel_rfl) (by kernel_rfl) rfl (dK TL dY) ((axF D N _ _).trans hN) fun l o hd => ?_
  simp only [adC] at hd
  split at hd
  ·obtain rfl := aC hd; exact ⟨rfl, rfl⟩
  ·cases hd
 ·cases hx
def WZ (K : AY) : Env := dF TI TY [(100, LK K)] aX aU
def Af : Code := dE Tryz.f78
def ah0 : Norm := ⟨[0, 1, 7, 8], [9000], [], []⟩
def Gw : Nat -> Option Norm := dN [(2, ah0)]
def Qq : End := ⟨[], ⟨[19], [9000], [], []⟩⟩
def Ci (l : List TV) (o : List (Nat × TO)) : Option (Int × List (aN)) := match l, o with | [.dv (.int .i64) x0], [(9000, .row (.pair (.int .i64) (.pair (.sl (.sl (.int .i64))) (.unit))) x1)] => some (x0, x1) | _, _ => none
def ZF (s0 : List Int) (bG : Int) (nN : MM) : TS := ⟨slots 19 [(0, .dv (.sl (.int .i64)) s0), (1, .fn 100 0 1 fun i => ([.ptr 9000 0 []] : List TV).getD i .any), (7, .dv (.int .i64) (s0.length : Int)), (8, .dv (.int .i64) bG)], [(9000, .row mX nN)]⟩
def apS (K : AY) (N : Nat) : dD (Int × List (aN)) := eH (WZ K) Gw N Af [1, 0, 1, 0] (fin TI Qq (aY Tryz.f78) Ci)
def YQ (K : AY) (N : Nat) (m : Nat) : TS -> Option (Int × List (aN)) := dW (den (WZ K) Gw N (sub Af [1, 0, 1, 0, 0])) (TS.norm ah0) (apS K N) m
def JQ (K : AY) (N : Nat) (s0 : List Int) : Nat -> Int -> (List (aN)) -> Option (Int × List (aN))
 | 0, _, _ => none
 | n + 1, bG, nN => cond (decide (bG < (s0.length : Int))) (chk (decide (0 <= bG /\ bG < (s0.length : Int))) ((K (s0.getD bG.toNat 0) nN).bind fun r1 =>
   cond (r1.1) (some (bG, r1.2))
   ((JQ K N s0 n (aB (bG + 1)) r1.2))))
   (some ((-1 : Int), nN))
theorem aI0 (K : AY) (N : Nat) (s0 : List Int) (m : Nat) (bG : Int) (nN : MM) : YQ K N (m + 1) (ZF s0 bG nN) = cond (decide (bG < (s0.length : Int))) (chk (decide (0 <= bG /\ bG < (s0.length : Int))) ((K (s0.getD bG.toNat 0) nN).bind fun r1 =>
   cond (r1.1) (some (bG, r1.2))
   ((YQ K N m (ZF s0 (aB (bG + 1)) r1.2)))))
   (some ((-1 : Int), nN)) := by kernel_rfl
theorem akJ (K : AY) (N : Nat) (s0 : List Int) : ∀ (m : Nat) (bG : Int) (nN : MM), YQ K N m (ZF s0 bG nN) = JQ K N s0 m bG nN
        | 0, _, _ => rfl
        | m + 1, bG, nN => by rw [aI0]; simp only [JQ, akJ K N s0 m]
def Ij (K : AY) (N : Nat) (s0 : List Int) (p1 : List (aN)) : Option (Int × List (aN)) :=
   (JQ K N s0 N (0 : Int) p1)
theorem aJT (K : AY) (N : Nat) (s0 : List Int) (p1 : List (aN)) : bK (WZ K) Gw N Qq Af (aY Tryz.f78) 17 [.dv (.sl (.int .i64)) s0, .fn 100 0 1 fun i => ([.ptr 9000 0 []] : List TV).getD i .any] [(9000, .row mX p1)] Ci = (YQ K N N (ZF s0 (0 : Int) p1)) := by kernel_rfl
theorem ax4 (K : AY) (N : Nat) (s0 : List Int) (p1 : List (aN)) : bK (WZ K) Gw N Qq Af (aY Tryz.f78) 17 [.dv (.sl (.int .i64)) s0, .fn 100 0 1 fun i => ([.ptr 9000 0 []] : List TV).getD i .any] [(9000, .row mX p1)] Ci = Ij K N s0 p1 := by rw [aJT]; simp only [Ij, akJ]
theorem aB2 (K : AY) (avL : aF prog 100 (LK K)) (a : (List Int) -> (List (aN)) -> Option (Int × List (aN))) (h : ∀ s0 p1 r, a s0 p1 = some r -> (∃ N, Ij K N s0 p1 = some r)) : aF prog 78 (L8 a) := by
 intro args Of x hx
 simp only [L8] at hx
 split at hx
 ·rename_i s0 FP p1 rX
  have hc0 := congrArg (fun c : List (List TV) => c.getD 0 []) rX
  obtain ⟨N, hN⟩ := h _ _ _ hx
  refine iQ.D5 (args := [.dv (.sl (.int .i64)) s0, .fn 100 0 1 fun i => ([.ptr 9000 0 []] : List TV).getD i .any]) (O := [(9000, .row mX p1)]) ⟨TV.nP _, TV.zN hc0, trivial⟩ ⟨rfl, TO.nP _, trivial⟩ (lifted (L := [(100, LK K)]) (rc := aX) (fz := aU) (fn := Tryz.f78) (by kernel_rfl) (by kernel_rfl) (by kernel_rfl) (by kernel_rfl) rfl ?_ ((ax4 K N _ _).trans hN) ?_)
  ·intro p hp; simp only [List.mem_cons, List.not_mem_nil, or_false] at hp; rcases hp with rfl; exact avL
  ·intro l o hd
   simp only [Ci] at hd
   split at hd
   ·obtain rfl := aC hd; exact ⟨rfl, rfl⟩
   ·cases hd
 ·cases hx
def amZ (Q : ZN) : Env := dF TI TY [(78, L8 Q)] aX aU
def ar1 : Code := dE Tryz.f45
def azE : Nat -> Option Norm := dN []
def atZ : End := ⟨[], ⟨[9], [9000], [], []⟩⟩
def ad2 (l : List TV) (o : List (Nat × TO)) : Option (Bool × List (aN)) := match l, o with | [.dv (.bool) x0], [(9000, .row (.pair (.int .i64) (.pair (.sl (.sl (.int .i64))) (.unit))) x1)] => some (x0, x1) | _, _ => none
def Wi (Q : ZN) (N : Nat) (s0 : List Int) (p1 : List (aN)) : Option (Bool × List (aN)) :=
   (Q s0 p1).bind fun r1 =>
   some (decide (r1.1 >= (0 : Int)), r1.2)
theorem axZ (Q : ZN) (N : Nat) (s0 : List Int) (p1 : List (aN)) : bK (amZ Q) azE N atZ ar1 (aY Tryz.f45) 7 [.dv (.sl (.int .i64)) s0, .fn 100 0 1 fun i => ([.ptr 9000 0 []] : List TV).getD i .any] [(9000, .row mX p1)] ad2 = Wi Q N s0 p1 := by kernel_rfl
theorem aBN (Q : ZN) (av7 : aF prog 78 (L8 Q)) (a : (List Int) -> (List (aN)) -> Option (Bool × List (aN))) (h : ∀ s0 p1 r, a s0 p1 = some r -> (∃ N, Wi Q N s0 p1 = some r)) : aF prog 45 (QG a) := by
 intro args Of x hx
 simp only [QG] at hx
 split at hx
 ·rename_i s0 FP p1 rX
  have hc0 := congrArg (fun c : List (List TV) => c.getD 0 []) rX
  obtain ⟨N, hN⟩ := h _ _ _ hx
  refine iQ.D5 (args := [.dv (.sl (.int .i64)) s0, .fn 100 0 1 fun i => ([.ptr 9000 0 []] : List TV).getD i .any]) (O := [(9000, .row mX p1)]) ⟨TV.nP _, TV.zN hc0, trivial⟩ ⟨rfl, TO.nP _, trivial⟩ (lifted (L := [(78, L8 Q)]) (rc := aX) (fz := aU) (fn := Tryz.f45) (by kernel_rfl) (by kernel_rfl) (by kernel_rfl) (by kernel_rfl) rfl ?_ ((axZ Q N _ _).trans hN) ?_)
  ·intro p hp; simp only [List.mem_cons, List.not_mem_nil, or_false] at hp; rcases hp with rfl; exact av7
  ·intro l o hd
   simp only [ad2] at hd
   split at hd
   ·obtain rfl := aC hd; exact ⟨rfl, rfl⟩
   ·cases hd
 ·cases hx
def E70 (A : dS) (U : vC) : Env := dF TI TY [(35, wC A), (45, QG U)] aX aU
def c70 : Code := dE Tryz.f70
def azL : Nat -> Option Norm := dN []
def auD : End := ⟨[], ⟨[15], [], [], []⟩⟩
def ad9 (l : List TV) (o : List (Nat × TO)) : Option (Int) := match l, o with | [.dv (.int .i64) x0], [] => some (x0) | _, _ => none
def Wv (A : dS) (U : vC) (N : Nat) (aG : aN) (pK : List Int) : Option (Int) :=
   (A aG).bind fun r1 =>
   cond ((pK.length : Int) != r1) (some (3 : Int))
   ((U pK ([aG] : List (aN))).bind fun r2 =>
   cond (r2.1) (some (4 : Int))
   (some (0 : Int)))
theorem k70 (A : dS) (U : vC) (N : Nat) (aG : aN) (pK : List Int) : bK (E70 A U) azL N auD c70 (aY Tryz.f70) 13 [.dv mX aG, .dv (.sl (.int .i64)) pK] [] ad9 = Wv A U N aG pK := by kernel_rfl
theorem aBX (A : dS) (U : vC) (h35 : aF prog 35 (wC A)) (av3 : aF prog 45 (QG U)) (a : (aN) -> (List Int) -> Option (Int)) (h : ∀ aG pK r, a aG pK = some r -> (∃ N, Wv A U N aG pK = some r)) : aF prog 70 (IA a) := by
 intro args Of x hx
 simp only [IA] at hx
 split at hx
 ·rename_i aG pK
  obtain ⟨N, hN⟩ := h _ _ _ hx
  refine dZ func70 (by kernel_rfl) (by kernel_rfl) rfl (dK h35 (dK av3 dY)) ((k70 A U N _ _).trans hN) fun l o hd => ?_
  simp only [ad9] at hd
  split at hd
  ·obtain rfl := aC hd; exact ⟨rfl, rfl⟩
  ·cases hd
 ·cases hx
def WS (A : dS) (D : vF) (M : AZ) (G : nS) : Env := dF TI TY [(35, wC A), (39, AU D), (68, QK M), (70, IA G)] aX aU
def c34 : Code := dE Tryz.f34
def ahL : Norm := ⟨[1, 33, 34, 35], [1], [], []⟩
def Gn : Nat -> Option Norm := dN [(10, ahL)]
def Qh : End := ⟨[], ⟨[46], [], [], []⟩⟩
def Bl (l : List TV) (o : List (Nat × TO)) : Option (Int) := match l, o with | [.dv (.int .i64) x0], [] => some (x0) | _, _ => none
def Y4 (r4 : Bool × List (aN)) (rF : Int) : TS := ⟨slots 46 [(1, .ptr 1 0 []), (33, .dv (.sl (.sl (.int .i64))) (((r4.2.getD 0 ((0 : Int), (([] : LL), ()))).2).1)), (34, .dv (.int .i64) ((((r4.2.getD 0 ((0 : Int), (([] : LL), ()))).2).1).length : Int)), (35, .dv (.int .i64) rF)], [(1, .row mX r4.2)]⟩
def apC (A : dS) (D : vF) (M : AZ) (G : nS) (N : Nat) : dD (Int) := eH (WS A D M G) Gn N c34 [1, 1, 0, 1, 0] (fin TI Qh (aY Tryz.f34) Bl)
def YE (A : dS) (D : vF) (M : AZ) (G : nS) (N : Nat) (m : Nat) : TS -> Option (Int) := dW (den (WS A D M G) Gn N (sub c34 [1, 1, 0, 1, 0, 0])) (TS.norm ahL) (apC A D M G N) m
def l34a (A : dS) (D : vF) (M : AZ) (G : nS) (N : Nat) (r4 : Bool × List (aN)) : Nat -> Int -> Option (Int)
 | 0, _ => none
 | n + 1, rF => cond (decide (rF < ((((r4.2.getD 0 ((0 : Int), (([] : LL), ()))).2).1).length : Int))) (chk (decide (0 <= rF /\ rF < ((((r4.2.getD 0 ((0 : Int), (([] : LL), ()))).2).1).length : Int))) ((G (r4.2.getD 0 ((0 : Int), (([] : LL), ()))) ((((r4.2.getD 0 ((0 : Int), (([] : LL), ()))).2).1).getD rF.toNat ([] : List Int))).bind fun r5 =>
   cond (r5 != (0 : Int)) (some r5)
   ((l34a A D M G N r4 n (aB (rF + 1))))))
   (some (0 : Int))
theorem aIH (A : dS) (D : vF) (M : AZ) (G : nS) (N : Nat) (r4 : Bool × List (aN)) (m : Nat) (rF : Int) : YE A D M G N (m + 1) (Y4 r4 rF) = cond (decide (rF < ((((r4.2.getD 0 ((0 : Int), (([] : LL), ()))).2).1).length : Int))) (chk (decide (0 <= rF /\ rF < ((((r4.2.getD 0 ((0 : Int), (([] : LL), ()))).2).1).length : Int))) ((G (r4.2.getD 0 ((0 : Int), (([] : LL), ()))) ((((r4.2.getD 0 ((0 : Int), (([] : LL), ()))).2).1).getD rF.toNat ([] : List Int))).bind fun r5 =>
   cond (r5 != (0 : Int)) (some r5)
   ((YE A D M G N m (Y4 r4 (aB (rF + 1)))))))
   (some (0 : Int)) := by kernel_rfl
theorem ajZ (A : dS) (D : vF) (M : AZ) (G : nS) (N : Nat) (r4 : Bool × List (aN)) : ∀ (m : Nat) (rF : Int), YE A D M G N m (Y4 r4 rF) = l34a A D M G N r4 m rF
        | 0, _ => rfl
        | m + 1, rF => by rw [aIH]; simp only [l34a, ajZ A D M G N r4 m]
def Hw (A : dS) (D : vF) (M : AZ) (G : nS) (N : Nat) (aG : aN) : Option (Int) :=
   (D (2 : Int) aG.1 (4 : Int)).bind fun r1 =>
   cond (!r1) (some (4 : Int))
   (cond ((aG.2.1.length : Int) == (0 : Int)) (some (1 : Int))
   (cond (decide ((aG.2.1.length : Int) > (10 : Int))) (some (2 : Int))
   ((A aG).bind fun r2 =>
   (D (1 : Int) r2 (8 : Int)).bind fun r3 =>
   cond (!r3) (some (3 : Int))
   ((M aG.2.1 ([aG] : List (aN))).bind fun r4 =>
   cond (r4.1) (some (3 : Int))
   ((l34a A D M G N r4 N (0 : Int)))))))
theorem aJJ (A : dS) (D : vF) (M : AZ) (G : nS) (N : Nat) (aG : aN) : bK (WS A D M G) Gn N Qh c34 (aY Tryz.f34) 45 [.dv mX aG] [] Bl = (D (2 : Int) aG.1 (4 : Int)).bind fun r1 =>
   cond (!r1) (some (4 : Int))
   (cond ((aG.2.1.length : Int) == (0 : Int)) (some (1 : Int))
   (cond (decide ((aG.2.1.length : Int) > (10 : Int))) (some (2 : Int))
   ((A aG).bind fun r2 =>
   (D (1 : Int) r2 (8 : Int)).bind fun r3 =>
   cond (!r3) (some (3 : Int))
   ((M aG.2.1 ([aG] : List (aN))).bind fun r4 =>
   cond (r4.1) (some (3 : Int))
   ((YE A D M G N N (Y4 r4 (0 : Int)))))))) := by kernel_rfl
theorem k34 (A : dS) (D : vF) (M : AZ) (G : nS) (N : Nat) (aG : aN) : bK (WS A D M G) Gn N Qh c34 (aY Tryz.f34) 45 [.dv mX aG] [] Bl = Hw A D M G N aG := by rw [aJJ]; simp only [Hw, ajZ]
theorem aBE (A : dS) (D : vF) (M : AZ) (G : nS) (h35 : aF prog 35 (wC A)) (TL : aF prog 39 (AU D)) (av5 : aF prog 68 (QK M)) (Sr : aF prog 70 (IA G)) (a : (aN) -> Option (Int)) (h : ∀ aG r, a aG = some r -> (∃ N, Hw A D M G N aG = some r)) : aF prog 34 (AQ a) := by
 intro args Of x hx
 simp only [AQ] at hx
 split at hx
 ·rename_i aG
  obtain ⟨N, hN⟩ := h _ _ hx
  refine dZ func34 (by kernel_rfl) (by kernel_rfl) rfl (dK h35 (dK TL (dK av5 (dK Sr dY)))) ((k34 A D M G N _).trans hN) fun l o hd => ?_
  simp only [Bl] at hd
  split at hd
  ·obtain rfl := aC hd; exact ⟨rfl, rfl⟩
  ·cases hd
 ·cases hx
def WT : Env := dF TI TY [] aX aU
def Z9 : Code := dE Tryz.f36
def ahM : Norm := ⟨[1, 5, 8, 9, 10], [], [], []⟩
def Gp : Nat -> Option Norm := dN [(3, ahM)]
def Qi : End := ⟨[], ⟨[25], [], [], []⟩⟩
def Bo (l : List TV) (o : List (Nat × TO)) : Option (Int) := match l, o with | [.dv (.int .i64) x0], [] => some (x0) | _, _ => none
def RX (fM : List Int) (b1 : List Int) (gY : Int) (bY : Int) : TS := ⟨slots 25 [(1, .dv (.sl (.int .i64)) b1), (5, .dv (.int .i64) gY), (8, .dv (.sl (.int .i64)) fM), (9, .dv (.int .i64) (fM.length : Int)), (10, .dv (.int .i64) bY)], []⟩
def apD (N : Nat) : dD (Int) := eH (WT) Gp N Z9 [1, 1, 0, 1, 0] (fin TI Qi (aY Tryz.f36) Bo)
def QZ (N : Nat) (m : Nat) : TS -> Option (Int) := dW (den (WT) Gp N (sub Z9 [1, 1, 0, 1, 0, 0])) (TS.norm ahM) (apD N) m
def F6 (N : Nat) (fM : List Int) (b1 : List Int) : Nat -> Int -> Int -> Option (Int)
 | 0, _, _ => none
 | n + 1, gY, bY => cond (decide (bY < (fM.length : Int))) (chk (decide (0 <= bY /\ bY < (fM.length : Int))) (chk (decide (0 <= bY /\ bY < (b1.length : Int))) (cond ((b1.getD bY.toNat 0) != (fM.getD bY.toNat 0)) ((F6 N fM b1 n (aB (gY + 1)) (aB (bY + 1))))
   ((F6 N fM b1 n gY (aB (bY + 1)))))))
   (some gY)
theorem aII (N : Nat) (fM : List Int) (b1 : List Int) (m : Nat) (gY : Int) (bY : Int) : QZ N (m + 1) (RX fM b1 gY bY) = cond (decide (bY < (fM.length : Int))) (chk (decide (0 <= bY /\ bY < (fM.length : Int))) (chk (decide (0 <= bY /\ bY < (b1.length : Int))) (cond ((b1.getD bY.toNat 0) != (fM.getD bY.toNat 0)) ((QZ N m (RX fM b1 (aB (gY + 1)) (aB (bY + 1)))))
   ((QZ N m (RX fM b1 gY (aB (bY + 1))))))))
   (some gY) := by kernel_rfl
theorem aj0 (N : Nat) (fM : List Int) (b1 : List Int) : ∀ (m : Nat) (gY : Int) (bY : Int), QZ N m (RX fM b1 gY bY) = F6 N fM b1 m gY bY
        | 0, _, _ => rfl
        | m + 1, gY, bY => by rw [aII]; simp only [F6, aj0 N fM b1 m]
def Hy (N : Nat) (fM : List Int) (b1 : List Int) : Option (Int) :=
   (F6 N fM b1 N (0 : Int) (0 : Int))
theorem aJK (N : Nat) (fM : List Int) (b1 : List Int) : bK (WT) Gp N Qi Z9 (aY Tryz.f36) 23 [.dv (.sl (.int .i64)) fM, .dv (.sl (.int .i64)) b1] [] Bo = (QZ N N (RX fM b1 (0 : Int) (0 : Int))) := by kernel_rfl
theorem k36 (N : Nat) (fM : List Int) (b1 : List Int) : bK (WT) Gp N Qi Z9 (aY Tryz.f36) 23 [.dv (.sl (.int .i64)) fM, .dv (.sl (.int .i64)) b1] [] Bo = Hy N fM b1 := by rw [aJK]; simp only [Hy, aj0]
theorem aBG (a : (List Int) -> (List Int) -> Option (Int)) (h : ∀ fM b1 r, a fM b1 = some r -> (∃ N, Hy N fM b1 = some r)) : aF prog 36 (H5 a) := by
 intro args Of x hx
 simp only [H5] at hx
 split at hx
 ·rename_i fM b1
  obtain ⟨N, hN⟩ := h _ _ _ hx
  refine dZ func36 (by kernel_rfl) (by kernel_rfl) rfl dY ((k36 N _ _).trans hN) fun l o hd => ?_
  simp only [Bo] at hd
  split at hd
  ·obtain rfl := aC hd; exact ⟨rfl, rfl⟩
  ·cases hd
 ·cases hx
def LC (C : dS) (A : dS) (B : nD) : Env := dF TI TY [(34, AQ C), (35, wC A), (36, H5 B)] aX aU
def c15 : Code := dE Tryz.f15
def Xn : Norm := ⟨[1, 5, 24, 25, 26], [1], [], []⟩
def ag8 : Norm := ⟨[1, 5, 7, 24, 25, 26, 34, 35, 36], [1], [], []⟩
def NW : Nat -> Option Norm := dN [(8, Xn), (11, ag8)]
def Px : End := ⟨[], ⟨[48, 49], [], [], []⟩⟩
def Ba (l : List TV) (o : List (Nat × TO)) : Option (Int × Int) := match l, o with | [.dv (.int .i64) x0, .dv (.int .i64) x1], [] => some (x0, x1) | _, _ => none
def YY (aG : aN) (gJ : Int) (xZ : Int) (gU : Int) : TS := ⟨slots 48 [(1, .ptr 1 0 []), (5, .dv (.int .i64) xZ), (7, .dv (.sl (.int .i64)) (aG.2.1.getD gJ.toNat ([] : List Int))), (24, .dv (.sl (.sl (.int .i64))) aG.2.1), (25, .dv (.int .i64) (aG.2.1.length : Int)), (26, .dv (.int .i64) gJ), (34, .dv (.sl (.sl (.int .i64))) (aG.2.1.take gJ.toNat)), (35, .dv (.int .i64) ((aG.2.1.take gJ.toNat).length : Int)), (36, .dv (.int .i64) gU)], [(1, .row mX ([aG] : List (aN)))]⟩
def Q9 (aG : aN) (gY : Int) (gJ : Int) : TS := ⟨slots 48 [(1, .ptr 1 0 []), (5, .dv (.int .i64) gY), (24, .dv (.sl (.sl (.int .i64))) aG.2.1), (25, .dv (.int .i64) (aG.2.1.length : Int)), (26, .dv (.int .i64) gJ)], [(1, .row mX ([aG] : List (aN)))]⟩
def abL (C : dS) (A : dS) (B : nD) (N : Nat) : dD (Int × Int) := eH (LC C A B) NW N c15 [1, 1, 1, 1, 0, 1, 0] (fin TI Px (aY Tryz.f15) Ba)
def XY (C : dS) (A : dS) (B : nD) (N : Nat) (m : Nat) : TS -> Option (Int × Int) := dW (den (LC C A B) NW N (sub c15 [1, 1, 1, 1, 0, 1, 0, 0])) (TS.norm Xn) (abL C A B N) m
def aoS (C : dS) (A : dS) (B : nD) (N : Nat) (yR : TS -> Option (Int × Int)) : dD (Int × Int) := eH (LC C A B) NW N (sub c15 [1, 1, 1, 1, 0, 1, 0, 0]) [1, 1, 0, 0, 1, 1, 0] (sD (TS.norm Xn) (abL C A B N) yR)
def XZ (C : dS) (A : dS) (B : nD) (N : Nat) (yR : TS -> Option (Int × Int)) (m : Nat) : TS -> Option (Int × Int) := dW (den (LC C A B) NW N (sub c15 [1, 1, 1, 1, 0, 1, 0, 0, 1, 1, 0, 0, 1, 1, 0, 0])) (TS.norm ag8) (aoS C A B N yR) m
def JJ (C : dS) (A : dS) (B : nD) (N : Nat) (aG : aN) (gJ : Int) (af6 : Int -> Int -> Option (Int × Int)) : Nat -> Int -> Int -> Option (Int × Int)
 | 0, _, _ => none
 | n + 1, xZ, gU => cond (decide (gU < ((aG.2.1.take gJ.toNat).length : Int))) (chk (decide (0 <= gU /\ gU < ((aG.2.1.take gJ.toNat).length : Int))) ((B (aG.2.1.getD gJ.toNat ([] : List Int)) ((aG.2.1.take gJ.toNat).getD gU.toNat ([] : List Int))).bind fun r3 =>
   (JJ C A B N aG gJ af6 n (gI xZ r3) (aB (gU + 1)))))
   ((af6 xZ (aB (gJ + 1))))
theorem aHV (C : dS) (A : dS) (B : nD) (N : Nat) (aG : aN) (gJ : Int) (yR : TS -> Option (Int × Int)) (m : Nat) (xZ : Int) (gU : Int) : XZ C A B N yR (m + 1) (YY aG gJ xZ gU) = cond (decide (gU < ((aG.2.1.take gJ.toNat).length : Int))) (chk (decide (0 <= gU /\ gU < ((aG.2.1.take gJ.toNat).length : Int))) ((B (aG.2.1.getD gJ.toNat ([] : List Int)) ((aG.2.1.take gJ.toNat).getD gU.toNat ([] : List Int))).bind fun r3 =>
   (XZ C A B N yR m (YY aG gJ (gI xZ r3) (aB (gU + 1))))))
   ((yR (Q9 aG xZ (aB (gJ + 1))))) := by kernel_rfl
theorem ajD (C : dS) (A : dS) (B : nD) (N : Nat) (aG : aN) (gJ : Int) (yR : TS -> Option (Int × Int)) : ∀ (m : Nat) (xZ : Int) (gU : Int), XZ C A B N yR m (YY aG gJ xZ gU) = JJ C A B N aG gJ (fun y0 y1 => yR (Q9 aG y0 y1)) m xZ gU
        | 0, _, _ => rfl
        | m + 1, xZ, gU => by rw [aHV]; simp only [JJ, ajD C A B N aG gJ yR m]
def EG (C : dS) (A : dS) (B : nD) (N : Nat) (aG : aN) : Nat -> Int -> Int -> Option (Int × Int)
 | 0, _, _ => none
 | n + 1, gY, gJ => cond (decide (gJ < (aG.2.1.length : Int))) (chk (decide (0 <= gJ /\ gJ < (aG.2.1.length : Int))) (chk (decide (0 <= gJ /\ gJ <= (aG.2.1.length : Int))) ((JJ C A B N aG gJ (fun y0 y1 => (EG C A B N aG n y0 y1)) N gY (0 : Int)))))
   (some (gY, (0 : Int)))
theorem aHU (C : dS) (A : dS) (B : nD) (N : Nat) (aG : aN) (m : Nat) (gY : Int) (gJ : Int) : XY C A B N (m + 1) (Q9 aG gY gJ) = cond (decide (gJ < (aG.2.1.length : Int))) (chk (decide (0 <= gJ /\ gJ < (aG.2.1.length : Int))) (chk (decide (0 <= gJ /\ gJ <= (aG.2.1.length : Int))) ((XZ C A B N (XY C A B N m) N (YY aG gJ gY (0 : Int))))))
   (some (gY, (0 : Int))) := by kernel_rfl
theorem ajC (C : dS) (A : dS) (B : nD) (N : Nat) (aG : aN) : ∀ (m : Nat) (gY : Int) (gJ : Int), XY C A B N m (Q9 aG gY gJ) = EG C A B N aG m gY gJ
        | 0, _, _ => rfl
        | m + 1, gY, gJ => by rw [aHU]; simp only [EG, ajD, ajC C A B N aG m]
def m15 (C : dS) (A : dS) (B : nD) (N : Nat) (aG : aN) : Option (Int × Int) :=
   (C aG).bind fun r1 =>
   cond (r1 != (0 : Int)) (some ((0 : Int), r1))
   (cond ((aG.2.1.length : Int) == (1 : Int)) (some ((0 : Int), (14 : Int)))
   ((A aG).bind fun r2 =>
   (EG C A B N aG N r2 (0 : Int))))
theorem aI9 (C : dS) (A : dS) (B : nD) (N : Nat) (aG : aN) : bK (LC C A B) NW N Px c15 (aY Tryz.f15) 47 [.dv mX aG] [] Ba = (C aG).bind fun r1 =>
   cond (r1 != (0 : Int)) (some ((0 : Int), r1))
   (cond ((aG.2.1.length : Int) == (1 : Int)) (some ((0 : Int), (14 : Int)))
   ((A aG).bind fun r2 =>
   (XY C A B N N (Q9 aG r2 (0 : Int))))) := by kernel_rfl
theorem k15 (C : dS) (A : dS) (B : nD) (N : Nat) (aG : aN) : bK (LC C A B) NW N Px c15 (aY Tryz.f15) 47 [.dv mX aG] [] Ba = m15 C A B N aG := by rw [aI9]; simp only [m15, ajC]
theorem aA1 (C : dS) (A : dS) (B : nD) (TK : aF prog 34 (AQ C)) (h35 : aF prog 35 (wC A)) (Si : aF prog 36 (H5 B)) (a : (aN) -> Option (Int × Int)) (h : ∀ aG r, a aG = some r -> (∃ N, m15 C A B N aG = some r)) : aF prog 15 (HY a) := by
 intro args Of x hx
 simp only [HY] at hx
 split at hx
 ·rename_i aG
  obtain ⟨N, hN⟩ := h _ _ hx
  refine dZ func15 (by kernel_rfl) (by kernel_rfl) rfl (dK TK (dK h35 (dK Si dY))) ((k15 C A B N _).trans hN) fun l o hd => ?_
  simp only [Ba] at hd
  split at hd
  ·obtain rfl := aC hd; exact ⟨rfl, rfl⟩
  ·cases hd
 ·cases hx
def E44 (C : dS) (G : nS) : Env := dF TI TY [(34, AQ C), (70, IA G)] aX aU
def c44 : Code := dE Tryz.f44
def azD : Nat -> Option Norm := dN []
def atY : End := ⟨[], ⟨[14], [], [], []⟩⟩
def ad1 (l : List TV) (o : List (Nat × TO)) : Option (Int) := match l, o with | [.dv (.int .i64) x0], [] => some (x0) | _, _ => none
def Wh (C : dS) (G : nS) (N : Nat) (aG : aN) (pK : List Int) : Option (Int) :=
   (C aG).bind fun r1 =>
   cond (r1 != (0 : Int)) (some r1)
   ((G aG pK).bind fun r2 =>
   some r2)
theorem k44 (C : dS) (G : nS) (N : Nat) (aG : aN) (pK : List Int) : bK (E44 C G) azD N atY c44 (aY Tryz.f44) 12 [.dv mX aG, .dv (.sl (.int .i64)) pK] [] ad1 = Wh C G N aG pK := by kernel_rfl
theorem aBM (C : dS) (G : nS) (TK : aF prog 34 (AQ C)) (Sr : aF prog 70 (IA G)) (a : (aN) -> (List Int) -> Option (Int)) (h : ∀ aG pK r, a aG pK = some r -> (∃ N, Wh C G N aG pK = some r)) : aF prog 44 (QF a) := by
 intro args Of x hx
 simp only [QF] at hx
 split at hx
 ·rename_i aG pK
  obtain ⟨N, hN⟩ := h _ _ _ hx
  refine dZ func44 (by kernel_rfl) (by kernel_rfl) rfl (dK TK (dK Sr dY)) ((k44 C G N _ _).trans hN) fun l o hd => ?_
  simp only [ad1] at hd
  split at hd
  ·obtain rfl := aC hd; exact ⟨rfl, rfl⟩
  ·cases hd
 ·cases hx
def WO (A : dS) (B : nD) (H : nS) : Env := dF TI TY [(35, wC A), (36, H5 B), (44, QF H)] aX aU
def c18 : Code := dE Tryz.f18
def ahC : Norm := ⟨[1, 8, 22, 23, 24], [], [(.slot 7, 1007, .int .i64)], []⟩
def Gj : Nat -> Option Norm := dN [(7, ahC)]
def Qc : End := ⟨[(45, .sl (.int .i64))], ⟨[45, 46], [], [], []⟩⟩
def Bg (l : List TV) (o : List (Nat × TO)) : Option (List Int × Int) := match l, o with | [.dv (.sl (.int .i64)) x0, .dv (.int .i64) x1], [] => some (x0, x1) | _, _ => none
def IP (aG : aN) (jY : List Int) (tN : Int) (lT : Int) (uB : List Int) : TS := ⟨slots 45 [(1, .dv (.sl (.int .i64)) jY), (7, .row 1007), (8, .dv (.int .i64) tN), (22, .dv (.sl (.sl (.int .i64))) aG.2.1), (23, .dv (.int .i64) (aG.2.1.length : Int)), (24, .dv (.int .i64) lT)], [(1007, .row (.int .i64) uB)]⟩
def ao2 (A : dS) (B : nD) (H : nS) (N : Nat) : dD (List Int × Int) := eH (WO A B H) Gj N c18 [1, 1, 1, 1, 0, 1, 0] (fin TI Qc (aY Tryz.f18) Bg)
def II (A : dS) (B : nD) (H : nS) (N : Nat) (m : Nat) : TS -> Option (List Int × Int) := dW (den (WO A B H) Gj N (sub c18 [1, 1, 1, 1, 0, 1, 0, 0])) (TS.norm ahC) (ao2 A B H N) m
def BZ (A : dS) (B : nD) (H : nS) (N : Nat) (aG : aN) (jY : List Int) : Nat -> Int -> Int -> (List Int) -> Option (List Int × Int)
 | 0, _, _, _ => none
 | n + 1, tN, lT, uB => cond (decide (lT < (aG.2.1.length : Int))) (chk (decide (0 <= lT /\ lT < (aG.2.1.length : Int))) ((B (aG.2.1.getD lT.toNat ([] : List Int)) jY).bind fun r3 =>
   cond (decide (r3 < tN)) (cond (r3 == r3) ((BZ A B H N aG jY n r3 (aB (lT + 1)) ([lT] : List Int)))
   ((BZ A B H N aG jY n r3 (aB (lT + 1)) ([] : List Int))))
   (cond (r3 == tN) (chk (small (uB.length + 1) 8) ((BZ A B H N aG jY n tN (aB (lT + 1)) (uB ++ ([lT] : List Int)))))
   ((BZ A B H N aG jY n tN (aB (lT + 1)) uB)))))
   (some (uB, (0 : Int)))
theorem aH3 (A : dS) (B : nD) (H : nS) (N : Nat) (aG : aN) (jY : List Int) (m : Nat) (tN : Int) (lT : Int) (uB : List Int) : II A B H N (m + 1) (IP aG jY tN lT uB) = cond (decide (lT < (aG.2.1.length : Int))) (chk (decide (0 <= lT /\ lT < (aG.2.1.length : Int))) ((B (aG.2.1.getD lT.toNat ([] : List Int)) jY).bind fun r3 =>
   cond (decide (r3 < tN)) (cond (r3 == r3) ((II A B H N m (IP aG jY r3 (aB (lT + 1)) ([lT] : List Int))))
   ((II A B H N m (IP aG jY r3 (aB (lT + 1)) ([] : List Int)))))
   (cond (r3 == tN) (chk (small (uB.length + 1) 8) ((II A B H N m (IP aG jY tN (aB (lT + 1)) (uB ++ ([lT] : List Int))))))
   ((II A B H N m (IP aG jY tN (aB (lT + 1)) uB))))))
   (some (uB, (0 : Int))) := by kernel_rfl
theorem ajK (A : dS) (B : nD) (H : nS) (N : Nat) (aG : aN) (jY : List Int) : ∀ (m : Nat) (tN : Int) (lT : Int) (uB : List Int), II A B H N m (IP aG jY tN lT uB) = BZ A B H N aG jY m tN lT uB
        | 0, _, _, _ => rfl
        | m + 1, tN, lT, uB => by rw [aH3]; simp only [BZ, ajK A B H N aG jY m]
def m18 (A : dS) (B : nD) (H : nS) (N : Nat) (aG : aN) (jY : List Int) : Option (List Int × Int) :=
   (H aG jY).bind fun r1 =>
   cond (r1 != (0 : Int)) (some (([] : List Int), r1))
   ((A aG).bind fun r2 =>
   (BZ A B H N aG jY N (aB (r2 + 1)) (0 : Int) ([] : List Int)))
theorem aJD (A : dS) (B : nD) (H : nS) (N : Nat) (aG : aN) (jY : List Int) : bK (WO A B H) Gj N Qc c18 (aY Tryz.f18) 43 [.dv mX aG, .dv (.sl (.int .i64)) jY] [] Bg = (H aG jY).bind fun r1 =>
   cond (r1 != (0 : Int)) (some (([] : List Int), r1))
   ((A aG).bind fun r2 =>
   (II A B H N N (IP aG jY (aB (r2 + 1)) (0 : Int) ([] : List Int)))) := by kernel_rfl
theorem k18 (A : dS) (B : nD) (H : nS) (N : Nat) (aG : aN) (jY : List Int) : bK (WO A B H) Gj N Qc c18 (aY Tryz.f18) 43 [.dv mX aG, .dv (.sl (.int .i64)) jY] [] Bg = m18 A B H N aG jY := by rw [aJD]; simp only [m18, ajK]
theorem aA8 (A : dS) (B : nD) (H : nS) (h35 : aF prog 35 (wC A)) (Si : aF prog 36 (H5 B)) (h44 : aF prog 44 (QF H)) (a : (aN) -> (List Int) -> Option (List Int × Int)) (h : ∀ aG jY r, a aG jY = some r -> (∃ N, m18 A B H N aG jY = some r)) : aF prog 18 (QD a) := by
 intro args Of x hx
 simp only [QD] at hx
 split at hx
 ·rename_i aG jY
  obtain ⟨N, hN⟩ := h _ _ _ hx
  refine dZ func18 (by kernel_rfl) (by kernel_rfl) rfl (dK h35 (dK Si (dK h44 dY))) ((k18 A B H N _ _).trans hN) fun l o hd => ?_
  simp only [Bg] at hd
  split at hd
  ·obtain rfl := aC hd; exact ⟨rfl, rfl⟩
  ·cases hd
 ·cases hx
end
end Go.Proofs.YtfopcfnggdonkaaGreatDoor
