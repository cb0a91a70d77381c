/-
 The functions that the law reaches, told as plain functions.
-/
import Derived.Test.YtfopcfnggdonkaaGreatDoorQFK
import Derived.Test.YtfopcfnggdonkaaGreatDoorWCM
import Derived.Test.YtfopcfnggdonkaaGreatDoorTWM
import Derived.Test.YtfopcfnggdonkaaGreatDoorTMM
namespace Go.Proofs.YtfopcfnggdonkaaGreatDoor
open Go.Proofs.Tryz
open Go.RowKit
set_option linter.unusedVariables false
noncomputable section
abbrev BB := Int -> Int -> Int -> Option (Bool)
abbrev BC := (Option (List Int)) -> Option (Option (List Int))
abbrev BD := (List Int) -> Option (List Int)
abbrev nI := (List Int) -> Int -> Int -> Int -> (List Int) -> Option (Option (List Int) × List Int)
abbrev uM := (List Int) -> Option (Int)
abbrev ZO := (aN) -> Option (Int × Int)
abbrev ZP := (List Int) -> Int -> Option (List Int × Int)
def XA (C : BB) : Env := dF TI TY [(32, yN C)] aX aU
def Ah : Code := dE Tryz.f79
def ah2 : Norm := ⟨[3, 14, 15, 16], [], [], []⟩
def Gy : Nat -> Option Norm := dN [(7, ah2)]
def Qs : End := ⟨[], ⟨[30], [], [], []⟩⟩
def Cm (l : List TV) (o : List (Nat × TO)) : Option (Int) := match l, o with | [.dv (.int .i64) x0], [] => some (x0) | _, _ => none
def ZH (bV : List Int) (CB : Int) (pJ : Int) : TS := ⟨slots 30 [(3, .dv (.int .i64) CB), (14, .dv (.sl (.int .i64)) bV), (15, .dv (.int .i64) (bV.length : Int)), (16, .dv (.int .i64) pJ)], []⟩
def apU (C : BB) (N : Nat) : dD (Int) := eH (XA C) Gy N Ah [1, 1, 1, 0, 1, 0] (fin TI Qs (aY Tryz.f79) Cm)
def YS (C : BB) (N : Nat) (m : Nat) : TS -> Option (Int) := dW (den (XA C) Gy N (sub Ah [1, 1, 1, 0, 1, 0, 0])) (TS.norm ah2) (apU C N) m
def Fp (C : BB) (N : Nat) (bV : List Int) : Nat -> Int -> Int -> Option (Int)
 | 0, _, _ => none
 | n + 1, CB, pJ => cond (decide (pJ < (bV.length : Int))) (chk (decide (0 <= pJ /\ pJ < (bV.length : Int))) ((C (1 : Int) (bV.getD pJ.toNat 0) (2000 : Int)).bind fun r1 =>
   cond (!r1) (some (3 : Int))
   (cond (decide ((bV.getD pJ.toNat 0) < CB)) (some (7 : Int))
   ((Fp C N bV n (bV.getD pJ.toNat 0) (aB (pJ + 1)))))))
   (some (0 : Int))
theorem aI2 (C : BB) (N : Nat) (bV : List Int) (m : Nat) (CB : Int) (pJ : Int) : YS C N (m + 1) (ZH bV CB pJ) = cond (decide (pJ < (bV.length : Int))) (chk (decide (0 <= pJ /\ pJ < (bV.length : Int))) ((C (1 : Int) (bV.getD pJ.toNat 0) (2000 : Int)).bind fun r1 =>
   cond (!r1) (some (3 : Int))
   (cond (decide ((bV.getD pJ.toNat 0) < CB)) (some (7 : Int))
   ((YS C N m (ZH bV (bV.getD pJ.toNat 0) (aB (pJ + 1))))))))
   (some (0 : Int)) := by kernel_rfl
theorem akL (C : BB) (N : Nat) (bV : List Int) : ∀ (m : Nat) (CB : Int) (pJ : Int), YS C N m (ZH bV CB pJ) = Fp C N bV m CB pJ
        | 0, _, _ => rfl
        | m + 1, CB, pJ => by rw [aI2]; simp only [Fp, akL C N bV m]
def Il (C : BB) (N : Nat) (bV : List Int) : Option (Int) :=
   cond ((bV.length : Int) == (0 : Int)) (some (1 : Int))
   (cond (decide ((bV.length : Int) > (7 : Int))) (some (2 : Int))
   ((Fp C N bV N (0 : Int) (0 : Int))))
theorem aJV (C : BB) (N : Nat) (bV : List Int) : bK (XA C) Gy N Qs Ah (aY Tryz.f79) 29 [.dv (.sl (.int .i64)) bV] [] Cm = cond ((bV.length : Int) == (0 : Int)) (some (1 : Int))
   (cond (decide ((bV.length : Int) > (7 : Int))) (some (2 : Int))
   ((YS C N N (ZH bV (0 : Int) (0 : Int))))) := by kernel_rfl
theorem k79 (C : BB) (N : Nat) (bV : List Int) : bK (XA C) Gy N Qs Ah (aY Tryz.f79) 29 [.dv (.sl (.int .i64)) bV] [] Cm = Il C N bV := by rw [aJV]; simp only [Il, akL]
theorem aB4 (C : BB) (h32 : aF prog 32 (yN C)) (a : (List Int) -> Option (Int)) (h : ∀ bV r, a bV = some r -> (∃ N, Il C N bV = some r)) : aF prog 79 (QN a) := by
 intro args Of x hx
 simp only [QN] at hx
 split at hx
 ·rename_i bV
  obtain ⟨N, hN⟩ := h _ _ hx
  refine dZ func79 (by kernel_rfl) (by kernel_rfl) rfl (dK h32 dY) ((k79 C N _).trans hN) fun l o hd => ?_
  simp only [Cm] at hd
  split at hd
  ·obtain rfl := aC hd; exact ⟨rfl, rfl⟩
  ·cases hd
 ·cases hx
def E73 : Env := dF TI TY [] aX aU
def c73 : Code := dE Tryz.f73
def azM : Nat -> Option Norm := dN []
def auE : End := ⟨[(9, .jT (.int .i64))], ⟨[9], [], [], []⟩⟩
def aeA (l : List TV) (o : List (Nat × TO)) : Option (List Int) := match l, o with | [.dv (.jT (.int .i64)) x0], [] => some (x0) | _, _ => none
def Wx (N : Nat) (s0 : List Int) : Option (List Int) :=
   chk (decide (0 <= (s0.length : Int) /\ (s0.length : Int) <= (s0.length : Int)) && decide ((s0.length : Int) = (s0.length : Int))) (some (s0.take ((s0.length : Int).toNat)))
theorem k73 (N : Nat) (s0 : List Int) : bK (E73) azM N auE c73 (aY Tryz.f73) 8 [.dv (.sl (.int .i64)) s0] [] aeA = Wx N s0 := by kernel_rfl
theorem aBY (a : (List Int) -> Option (List Int)) (h : ∀ s0 r, a s0 = some r -> (∃ N, Wx N s0 = some r)) : aF prog 73 (LZ a) := by
 intro args Of x hx
 simp only [LZ] at hx
 split at hx
 ·rename_i s0
  obtain ⟨N, hN⟩ := h _ _ hx
  refine dZ func73 (by kernel_rfl) (by kernel_rfl) rfl dY ((k73 N _).trans hN) fun l o hd => ?_
  simp only [aeA] at hd
  split at hd
  ·obtain rfl := aC hd; exact ⟨rfl, rfl⟩
  ·cases hd
 ·cases hx
def XB (D : BC) (G : BD) (A : nI) : Env := dF TI TY [(43, yP D), (73, LZ G), (80, AV A)] aX aU
def Ai : Code := dE Tryz.f80
def ah3 : Norm := ⟨[0, 1, 2, 3, 5, 11, 42, 43], [9001, 9000], [], []⟩
def Ha : Nat -> Option Norm := dN [(7, ah3)]
def Qu : End := ⟨[(70, .fJ (.int .i64))], ⟨[70], [9000, 9001], [], []⟩⟩
def Dc (l : List TV) (o : List (Nat × TO)) : Option (Option (List Int) × List Int) := match l, o, y8 l o with | [.dv (.fJ (.int .i64)) x0], [(9000, .aV [.dv (.sl (.int .i64)) x1]), (9001, .aV [.fn 80 0 2 _])], [[.ptr 9000 0 [0], .ptr 9001 0 [0]]] => some (x0, x1) | _, _, _ => none
def ZI (fV : List Int) (left1 : Int) (jV : Int) (kP : Int) (p4 : List Int) (oC : Int) (yE : List Int) : TS := ⟨slots 70 [(0, .dv (.sl (.int .i64)) fV), (1, .dv (.int .i64) left1), (2, .dv (.int .i64) jV), (3, .dv (.int .i64) kP), (5, .ptr 9001 0 [0]), (11, .dv (.int .i64) (p4.getD ((fV.length : Int).toNat) (0 : Int))), (42, .dv (.arr 3 (.int .i64)) ([(1 : Int), (0 : Int), (-1 : Int)] : List Int)), (43, .dv (.int .i64) oC)], [(9001, .aV [.fn 80 0 2 fun i => ([.ptr 9000 0 [0], .ptr 9001 0 [0]] : List TV).getD i .any]), (9000, .aV [.dv (.sl (.int .i64)) yE])]⟩
def apW (D : BC) (G : BD) (A : nI) (N : Nat) : dD (Option (List Int) × List Int) := eH (XB D G A) Ha N Ai [1, 1, 1, 0, 1, 0] (fin TI Qu (aY Tryz.f80) Dc)
def YT (D : BC) (G : BD) (A : nI) (N : Nat) (m : Nat) : TS -> Option (Option (List Int) × List Int) := dW (den (XB D G A) Ha N (sub Ai [1, 1, 1, 0, 1, 0, 0])) (TS.norm ah3) (apW D G A N) m
def Fq (D : BC) (G : BD) (A : nI) (N : Nat) (fV : List Int) (left1 : Int) (jV : Int) (kP : Int) (p4 : List Int) : Nat -> Int -> (List Int) -> Option (Option (List Int) × List Int)
 | 0, _, _ => none
 | n + 1, oC, yE => cond (decide (oC < (3 : Int))) (chk (decide (0 <= oC /\ oC < (3 : Int))) ((G fV).bind fun r2 =>
   chk (small (r2.length + 1) 8) ((A (r2 ++ ([([(1 : Int), (0 : Int), (-1 : Int)] : List Int).getD oC.toNat 0] : List Int)) (aB (left1 - (aB ((([(1 : Int), (0 : Int), (-1 : Int)] : List Int).getD oC.toNat 0) * (p4.getD ((fV.length : Int).toNat) (0 : Int)))))) (aB (jV - (p4.getD ((fV.length : Int).toNat) (0 : Int)))) (aB (kP - (aB ((([(1 : Int), (0 : Int), (-1 : Int)] : List Int).getD oC.toNat 0) * (([(1 : Int), (0 : Int), (-1 : Int)] : List Int).getD oC.toNat 0))))) yE).bind fun r3 =>
   cond (!r3.1.isNone) (some (r3.1, r3.2))
   ((Fq D G A N fV left1 jV kP p4 n (aB (oC + 1)) r3.2)))))
   (some ((none : Option (List Int)), yE))
theorem aI3 (D : BC) (G : BD) (A : nI) (N : Nat) (fV : List Int) (left1 : Int) (jV : Int) (kP : Int) (p4 : List Int) (m : Nat) (oC : Int) (yE : List Int) : YT D G A N (m + 1) (ZI fV left1 jV kP p4 oC yE) = cond (decide (oC < (3 : Int))) (chk (decide (0 <= oC /\ oC < (3 : Int))) ((G fV).bind fun r2 =>
   chk (small (r2.length + 1) 8) ((A (r2 ++ ([([(1 : Int), (0 : Int), (-1 : Int)] : List Int).getD oC.toNat 0] : List Int)) (aB (left1 - (aB ((([(1 : Int), (0 : Int), (-1 : Int)] : List Int).getD oC.toNat 0) * (p4.getD ((fV.length : Int).toNat) (0 : Int)))))) (aB (jV - (p4.getD ((fV.length : Int).toNat) (0 : Int)))) (aB (kP - (aB ((([(1 : Int), (0 : Int), (-1 : Int)] : List Int).getD oC.toNat 0) * (([(1 : Int), (0 : Int), (-1 : Int)] : List Int).getD oC.toNat 0))))) yE).bind fun r3 =>
   cond (!r3.1.isNone) (some (r3.1, r3.2))
   ((YT D G A N m (ZI fV left1 jV kP p4 (aB (oC + 1)) r3.2))))))
   (some ((none : Option (List Int)), yE)) := by kernel_rfl
theorem akM (D : BC) (G : BD) (A : nI) (N : Nat) (fV : List Int) (left1 : Int) (jV : Int) (kP : Int) (p4 : List Int) : ∀ (m : Nat) (oC : Int) (yE : List Int), YT D G A N m (ZI fV left1 jV kP p4 oC yE) = Fq D G A N fV left1 jV kP p4 m oC yE
        | 0, _, _ => rfl
        | m + 1, oC, yE => by rw [aI3]; simp only [Fq, akM D G A N fV left1 jV kP p4 m]
def Io (D : BC) (G : BD) (A : nI) (N : Nat) (fV : List Int) (left1 : Int) (jV : Int) (kP : Int) (p4 : List Int) : Option (Option (List Int) × List Int) :=
   cond (decide (kP < (0 : Int))) (some ((none : Option (List Int)), p4))
   (cond (decide (left1 > jV)) (some ((none : Option (List Int)), p4))
   (cond (decide (left1 < (aB (0 - jV)))) (some ((none : Option (List Int)), p4))
   (cond ((fV.length : Int) == (p4.length : Int)) (chk ((decide (0 < fV.length)) && (true)) ((D (some fV)).bind fun r1 =>
   some (r1, p4)))
   (chk (decide (0 <= (fV.length : Int) /\ (fV.length : Int) < (p4.length : Int))) ((Fq D G A N fV left1 jV kP p4 N (0 : Int) p4))))))
theorem aJW (D : BC) (G : BD) (A : nI) (N : Nat) (fV : List Int) (left1 : Int) (jV : Int) (kP : Int) (p4 : List Int) : bK (XB D G A) Ha N Qu Ai (aY Tryz.f80) 64 [.dv (.sl (.int .i64)) fV, .dv (.int .i64) left1, .dv (.int .i64) jV, .dv (.int .i64) kP, .ptr 9000 0 [0], .ptr 9001 0 [0]] [(9000, .aV [.dv (.sl (.int .i64)) p4]), (9001, .aV [.fn 80 0 2 fun i => ([.ptr 9000 0 [0], .ptr 9001 0 [0]] : List TV).getD i .any])] Dc = cond (decide (kP < (0 : Int))) (some ((none : Option (List Int)), p4))
   (cond (decide (left1 > jV)) (some ((none : Option (List Int)), p4))
   (cond (decide (left1 < (aB (0 - jV)))) (some ((none : Option (List Int)), p4))
   (cond ((fV.length : Int) == (p4.length : Int)) (chk ((decide (0 < fV.length)) && (true)) ((D (some fV)).bind fun r1 =>
   some (r1, p4)))
   (chk (decide (0 <= (fV.length : Int) /\ (fV.length : Int) < (p4.length : Int))) ((YT D G A N N (ZI fV left1 jV kP p4 (0 : Int) p4))))))) := by kernel_rfl
theorem ax6 (D : BC) (G : BD) (A : nI) (N : Nat) (fV : List Int) (left1 : Int) (jV : Int) (kP : Int) (p4 : List Int) : bK (XB D G A) Ha N Qu Ai (aY Tryz.f80) 64 [.dv (.sl (.int .i64)) fV, .dv (.int .i64) left1, .dv (.int .i64) jV, .dv (.int .i64) kP, .ptr 9000 0 [0], .ptr 9001 0 [0]] [(9000, .aV [.dv (.sl (.int .i64)) p4]), (9001, .aV [.fn 80 0 2 fun i => ([.ptr 9000 0 [0], .ptr 9001 0 [0]] : List TV).getD i .any])] Dc = Io D G A N fV left1 jV kP p4 := by rw [aJW]; simp only [Io, akM]
theorem aB5 (D : BC) (G : BD) (A : nI) (h43 : aF prog 43 (yP D)) (h73 : aF prog 73 (LZ G)) (Sv : aF prog 80 (AV A)) (a : (List Int) -> Int -> Int -> Int -> (List Int) -> Option (Option (List Int) × List Int)) (h : ∀ fV left1 jV kP p4 r, a fV left1 jV kP p4 = some r -> (∃ N, Io D G A N fV left1 jV kP p4 = some r)) : aF prog 80 (AV a) := by
 intro args Of x hx
 simp only [AV] at hx
 split at hx
 ·rename_i fV left1 jV kP p4 FP rX
  have hc0 := congrArg (fun c : List (List TV) => c.getD 0 []) rX
  obtain ⟨N, hN⟩ := h _ _ _ _ _ _ hx
  refine iQ.D5 (args := [.dv (.sl (.int .i64)) fV, .dv (.int .i64) left1, .dv (.int .i64) jV, .dv (.int .i64) kP, .ptr 9000 0 [0], .ptr 9001 0 [0]]) (O := [(9000, .aV [.dv (.sl (.int .i64)) p4]), (9001, .aV [.fn 80 0 2 fun i => ([.ptr 9000 0 [0], .ptr 9001 0 [0]] : List TV).getD i .any])]) ⟨TV.nP _, TV.nP _, TV.nP _, TV.nP _, TV.nP _, TV.nP _, trivial⟩ ⟨rfl, TO.nP _, rfl, TO.ak8 ⟨TV.zN hc0, trivial⟩, trivial⟩ (agH (L := [(43, yP D), (73, LZ G), (80, AV A)]) (rc := aX) (fz := aU) (fn := Tryz.f80) (by kernel_rfl) (by kernel_rfl) (by kernel_rfl) (by kernel_rfl) rfl ?_ ((ax6 D G A N _ _ _ _ _).trans hN) ?_)
  ·intro p hp; simp only [List.mem_cons, List.not_mem_nil, or_false] at hp; rcases hp with rfl | rfl | rfl
   ·exact h43
   ·exact h73
   ·exact Sv
  ·intro l o hd
   simp only [Dc] at hd
   split at hd
   ·rename_i Tn
    have hd0 := congrArg (fun c : List (List TV) => c.getD 0 []) Tn
    obtain rfl := aC hd; exact ⟨TV.nP _, ⟨rfl, TO.nP _, rfl, TO.ak8 ⟨TV.zO (TV.zN hd0), trivial⟩, trivial⟩⟩
   ·cases hd
 ·cases hx
def LG (B : uM) (A : nI) : Env := dF TI TY [(79, QN B), (80, AV A)] aX aU
def MR : Code := dE Tryz.f47
def ahO : Norm := ⟨[1, 2, 7, 18, 19, 20], [2], [], []⟩
def ahP : Norm := ⟨[1, 7, 10, 31, 32], [10, 2], [], []⟩
def NZ : Nat -> Option Norm := dN [(6, ahO), (13, ahP)]
def Dl : End := ⟨[(45, .sl (.int .i64))], ⟨[45, 46], [], [], []⟩⟩
def SN (l : List TV) (o : List (Nat × TO)) : Option (List Int × Int) := match l, o with | [.dv (.sl (.int .i64)) x0, .dv (.int .i64) x1], [] => some (x0, x1) | _, _ => none
def Y7 (bV : List Int) (gX : Int) (nK : Int) (iK : Int) (CV : List Int) : TS := ⟨slots 45 [(1, .dv (.int .i64) gX), (7, .dv (.int .i64) nK), (10, .ptr 10 0 [0]), (31, .dv (.int .i64) (aB ((bV.length : Int) + 1))), (32, .dv (.int .i64) iK)], [(10, .aV [.fn 80 0 2 fun i => ([.ptr 2 0 [0], .ptr 10 0 [0]] : List TV).getD i .any]), (2, .aV [.dv (.sl (.int .i64)) CV])]⟩
def Y6 (bV : List Int) (gX : Int) (nK : Int) (dV : Int) : TS := ⟨slots 45 [(1, .dv (.int .i64) gX), (2, .ptr 2 0 [0]), (7, .dv (.int .i64) nK), (18, .dv (.sl (.int .i64)) bV), (19, .dv (.int .i64) (bV.length : Int)), (20, .dv (.int .i64) dV)], [(2, .aV [.dv (.sl (.int .i64)) bV])]⟩
def apG (B : uM) (A : nI) (N : Nat) : dD (List Int × Int) := eH (LG B A) NZ N MR [1, 1, 1, 0, 1, 0] (fin TI Dl (aY Tryz.f47) SN)
def YG (B : uM) (A : nI) (N : Nat) (m : Nat) : TS -> Option (List Int × Int) := dW (den (LG B A) NZ N (sub MR [1, 1, 1, 0, 1, 0, 0])) (TS.norm ahO) (apG B A N) m
def apH (B : uM) (A : nI) (N : Nat) : dD (List Int × Int) := eH (LG B A) NZ N MR [1, 1, 1, 1, 1, 1, 0, 1, 0] (fin TI Dl (aY Tryz.f47) SN)
def YH (B : uM) (A : nI) (N : Nat) (m : Nat) : TS -> Option (List Int × Int) := dW (den (LG B A) NZ N (sub MR [1, 1, 1, 1, 1, 1, 0, 1, 0, 0])) (TS.norm ahP) (apH B A N) m
def Fh (B : uM) (A : nI) (N : Nat) (bV : List Int) (gX : Int) (nK : Int) : Nat -> Int -> (List Int) -> Option (List Int × Int)
 | 0, _, _ => none
 | n + 1, iK, CV => cond (decide (iK < (aB ((bV.length : Int) + 1)))) ((A ([] : List Int) gX nK iK CV).bind fun r2 =>
   cond (!r2.1.isNone) (some (r2.1.getD [], (0 : Int)))
   ((Fh B A N bV gX nK n (aB (iK + 1)) r2.2)))
   (some (([] : List Int), (14 : Int)))
theorem aIL (B : uM) (A : nI) (N : Nat) (bV : List Int) (gX : Int) (nK : Int) (m : Nat) (iK : Int) (CV : List Int) : YH B A N (m + 1) (Y7 bV gX nK iK CV) = cond (decide (iK < (aB ((bV.length : Int) + 1)))) ((A ([] : List Int) gX nK iK CV).bind fun r2 =>
   cond (!r2.1.isNone) (some (r2.1.getD [], (0 : Int)))
   ((YH B A N m (Y7 bV gX nK (aB (iK + 1)) r2.2))))
   (some (([] : List Int), (14 : Int))) := by kernel_rfl
theorem aj3 (B : uM) (A : nI) (N : Nat) (bV : List Int) (gX : Int) (nK : Int) : ∀ (m : Nat) (iK : Int) (CV : List Int), YH B A N m (Y7 bV gX nK iK CV) = Fh B A N bV gX nK m iK CV
        | 0, _, _ => rfl
        | m + 1, iK, CV => by rw [aIL]; simp only [Fh, aj3 B A N bV gX nK m]
def Fg (B : uM) (A : nI) (N : Nat) (bV : List Int) (gX : Int) : Nat -> Int -> Int -> Option (List Int × Int)
 | 0, _, _ => none
 | n + 1, nK, dV => cond (decide (dV < (bV.length : Int))) (chk (decide (0 <= dV /\ dV < (bV.length : Int))) ((Fg B A N bV gX n (aB (nK + (bV.getD dV.toNat 0))) (aB (dV + 1)))))
   ((Fh B A N bV gX nK N (0 : Int) bV))
theorem aIK (B : uM) (A : nI) (N : Nat) (bV : List Int) (gX : Int) (m : Nat) (nK : Int) (dV : Int) : YG B A N (m + 1) (Y6 bV gX nK dV) = cond (decide (dV < (bV.length : Int))) (chk (decide (0 <= dV /\ dV < (bV.length : Int))) ((YG B A N m (Y6 bV gX (aB (nK + (bV.getD dV.toNat 0))) (aB (dV + 1))))))
   ((YH B A N N (Y7 bV gX nK (0 : Int) bV))) := by kernel_rfl
theorem aj2 (B : uM) (A : nI) (N : Nat) (bV : List Int) (gX : Int) : ∀ (m : Nat) (nK : Int) (dV : Int), YG B A N m (Y6 bV gX nK dV) = Fg B A N bV gX m nK dV
        | 0, _, _ => rfl
        | m + 1, nK, dV => by rw [aIK]; simp only [Fg, aj3, aj2 B A N bV gX m]
def Ib (B : uM) (A : nI) (N : Nat) (bV : List Int) (gX : Int) : Option (List Int × Int) :=
   (B bV).bind fun r1 =>
   cond (r1 != (0 : Int)) (some (([] : List Int), r1))
   ((Fg B A N bV gX N (0 : Int) (0 : Int)))
theorem aJM (B : uM) (A : nI) (N : Nat) (bV : List Int) (gX : Int) : bK (LG B A) NZ N Dl MR (aY Tryz.f47) 43 [.dv (.sl (.int .i64)) bV, .dv (.int .i64) gX] [] SN = (B bV).bind fun r1 =>
   cond (r1 != (0 : Int)) (some (([] : List Int), r1))
   ((YG B A N N (Y6 bV gX (0 : Int) (0 : Int)))) := by kernel_rfl
theorem k47 (B : uM) (A : nI) (N : Nat) (bV : List Int) (gX : Int) : bK (LG B A) NZ N Dl MR (aY Tryz.f47) 43 [.dv (.sl (.int .i64)) bV, .dv (.int .i64) gX] [] SN = Ib B A N bV gX := by rw [aJM]; simp only [Ib, aj2]
theorem aBQ (B : uM) (A : nI) (h79 : aF prog 79 (QN B)) (Sv : aF prog 80 (AV A)) (a : (List Int) -> Int -> Option (List Int × Int)) (h : ∀ bV gX r, a bV gX = some r -> (∃ N, Ib B A N bV gX = some r)) : aF prog 47 (QI a) := by
 intro args Of x hx
 simp only [QI] at hx
 split at hx
 ·rename_i bV gX
  obtain ⟨N, hN⟩ := h _ _ _ hx
  refine dZ func47 (by kernel_rfl) (by kernel_rfl) rfl (dK h79 (dK Sv dY)) ((k47 B A N _ _).trans hN) fun l o hd => ?_
  simp only [SN] at hd
  split at hd
  ·obtain rfl := aC hd; exact ⟨rfl, rfl⟩
  ·cases hd
 ·cases hx
def E20 (H : Option (Bool)) (J : ZO) (K : ZP) : Env := dF TI TY [(13, XE H), (15, HY J), (47, QI K)] aX aU
def c20 : Code := dE Tryz.f20
def ay5 : Nat -> Option Norm := dN []
def atO : End := ⟨[], ⟨[49], [], [], []⟩⟩
def adR (l : List TV) (o : List (Nat × TO)) : Option (Bool) := match l, o with | [.dv (.bool) x0], [] => some (x0) | _, _ => none
def m20 (H : Option (Bool)) (J : ZO) (K : ZP) (N : Nat) : Option (Bool) :=
   (K ([(1 : Int), (3 : Int), (9 : Int)] : List Int) (5 : Int)).bind fun r1 =>
   (J ((3 : Int), (([([(0 : Int), (0 : Int), (0 : Int)] : List Int), ([(1 : Int), (1 : Int), (1 : Int)] : List Int), ([(2 : Int), (2 : Int), (2 : Int)] : List Int)] : LL), ()))).bind fun r2 =>
   cond (r1.2 == (0 : Int)) (cond (r2.2 == (0 : Int)) (cond ((r1.1.length : Int) == (3 : Int)) (chk (decide (0 <= (0 : Int) /\ (0 : Int) < (r1.1.length : Int))) (cond ((r1.1.getD 0 (0 : Int)) == (-1 : Int)) (chk (decide (0 <= (2 : Int) /\ (2 : Int) < (r1.1.length : Int))) (cond ((r1.1.getD 2 (0 : Int)) == (1 : Int)) (cond (r2.1 == (3 : Int)) ((H).bind fun r3 =>
   some r3)
   (some false))
   (some false)))
   (some false)))
   (some false))
   (some false))
   (some false)
theorem k20 (H : Option (Bool)) (J : ZO) (K : ZP) (N : Nat) : bK (E20 H J K) ay5 N atO c20 (aY Tryz.f20) 49 [] [] adR = m20 H J K N := by kernel_rfl
theorem aA' (H : Option (Bool)) (J : ZO) (K : ZP) (h13 : aF prog 13 (XE H)) (h15 : aF prog 15 (HY J)) (h47 : aF prog 47 (QI K)) (a : Option (Bool)) (h : ∀ r, a = some r -> (∃ N, m20 H J K N = some r)) : aF prog 20 (F20 a) := by
 intro args Of x hx
 simp only [F20] at hx
 split at hx
 ·skip
  obtain ⟨N, hN⟩ := h _ hx
  refine dZ func20 (by kernel_rfl) (by kernel_rfl) rfl (dK h13 (dK h15 (dK h47 dY))) ((k20 H J K N).trans hN) fun l o hd => ?_
  simp only [adR] at hd
  split at hd
  ·obtain rfl := aC hd; exact ⟨rfl, rfl⟩
  ·cases hd
 ·cases hx
end
end Go.Proofs.YtfopcfnggdonkaaGreatDoor
