/-
 Functions of the law, told as plain functions.
-/
import Derived.Test.YtbjfbbfglkmadaaDoorQFI
namespace Go.Proofs.YtbjfbbfglkmadaaDoor
open Go.RowKit
set_option linter.unusedVariables false
def E40 : Env := mkE TI TY [] (fun i => ([(3, [some (.int .i64), none]), (13, [some (.int .i64), none]), (2, [some (.int .i64), none]), (66, [some (.int .i64), none])] : List (Nat × List (Option DT))).lookup i) (fun i => ([52, 63] : List Nat).contains i)
noncomputable def c40 : Code := bodyOf Tryd.f40
def nm40_0 : Norm := ⟨[1, 2, 3, 4, 5], [1, 2, 3], [(.fld 3 1, 2100, .tup (.sl (.int .i64)))], []⟩
def nm40_1 : Norm := ⟨[1, 2, 3, 4, 5, 7], [1, 2, 3, 2100], [(.slot 6, 1006, .int .i64)], []⟩
def lv40 : Nat → Option Norm := norms [(4, nm40_0), (8, nm40_1), (1000014, ⟨[2, 3], [2, 3], [(.fld 3 1, 2100, .tup (.sl (.int .i64)))], []⟩)]
def en40 : End := ⟨[], ⟨[67], [2100], [], []⟩⟩
def dec40 (l : List TV) (o : List (Nat × TO)) : Option (Int × LL) := match l, o, capsOf l o with | [.st 2 _], [(2100, .mat (.int .i64) x1 none)], [[.dv (.int .i64) x0, .row 2100]] => some (x0, x1) | _, _, _ => none
def Sl40b (s0 : Int × Int × LL × Unit) (i5_a : Int) (o2100_a : LL) (k7_b : Int) (w6_b : List Int) : TS := ⟨slots 67 [(1, .ptr 1 0 []), (2, .ptr 2 0 []), (3, .ptr 3 0 []), (4, .dv (.int .i64) (w64 ((1 : Int) + (Int.tmod (w64 (s0.2.1)) (4 : Int))))), (5, .dv (.int .i64) i5_a), (6, .row 1006), (7, .dv (.int .i64) k7_b)], [(1006, .row (.int .i64) w6_b), (1, .row (.pair (.int .u8) (.pair (.int .u8) (.pair (.sl (.arr 4 (.int .u8))) (.unit)))) ([s0] : List (Int × Int × LL × Unit))), (2, .rcd [.dv (.int .i64) (0 : Int), .nl]), (3, .rcd [.dv (.int .i64) (w64 ((2 : Int) + (Int.tmod (w64 (s0.1)) (2 : Int)))), .row 2100]), (2100, .mat (.int .i64) o2100_a none)]⟩
def Sl40a (s0 : Int × Int × LL × Unit) (i5_a : Int) (o2100_a : LL) : TS := ⟨slots 67 [(1, .ptr 1 0 []), (2, .ptr 2 0 []), (3, .ptr 3 0 []), (4, .dv (.int .i64) (w64 ((1 : Int) + (Int.tmod (w64 (s0.2.1)) (4 : Int))))), (5, .dv (.int .i64) i5_a)], [(2100, .mat (.int .i64) o2100_a none), (1, .row (.pair (.int .u8) (.pair (.int .u8) (.pair (.sl (.arr 4 (.int .u8))) (.unit)))) ([s0] : List (Int × Int × LL × Unit))), (2, .rcd [.dv (.int .i64) (0 : Int), .nl]), (3, .rcd [.dv (.int .i64) (w64 ((2 : Int) + (Int.tmod (w64 (s0.1)) (2 : Int)))), .row 2100])]⟩
noncomputable def K40_0 (N : Nat) : Kont (Int × LL) := kont (E40) lv40 N c40 [1, 1, 1, 0, 1, 0] (fin TI en40 (resOf Tryd.f40) dec40)
noncomputable def R40_0 (N : Nat) (m : Nat) : TS → Option (Int × LL) := loopK (den (E40) lv40 N (sub c40 [1, 1, 1, 0, 1, 0, 0])) (TS.norm nm40_0) (K40_0 N) m
noncomputable def K40_1 (N : Nat) (T40_0 : TS → Option (Int × LL)) : Kont (Int × LL) := kont (E40) lv40 N (sub c40 [1, 1, 1, 0, 1, 0, 0]) [1, 0, 0, 1, 0, 1, 0] (kloop (TS.norm nm40_0) (K40_0 N) T40_0)
noncomputable def R40_1 (N : Nat) (T40_0 : TS → Option (Int × LL)) (m : Nat) : TS → Option (Int × LL) := loopK (den (E40) lv40 N (sub c40 [1, 1, 1, 0, 1, 0, 0, 1, 0, 0, 1, 0, 1, 0, 0])) (TS.norm nm40_1) (K40_1 N T40_0) m
def l40b (N : Nat) (s0 : Int × Int × LL × Unit) (i5_a : Int) (o2100_a : LL) (rec_l40a : Int → LL → Option (Int × LL)) : Nat → Int → (List Int) → Option (Int × LL)
 | 0, _, _ => none
 | n + 1, k7_b, w6_b => cond (decide (k7_b < (w64 ((1 : Int) + (Int.tmod (w64 (s0.2.1)) (4 : Int)))))) (chk (decide (0 ≤ i5_a ∧ i5_a < (s0.2.2.1.length : Int))) (chk (decide (0 ≤ k7_b ∧ k7_b < (4 : Int))) (chk (decide (w64 ((2 : Int) + (Int.tmod (w64 (s0.1)) (2 : Int))) ≠ (0 : Int))) (chk (small (w6_b.length + 1) 8) ((l40b N s0 i5_a o2100_a rec_l40a n (w64 (k7_b + 1)) (w6_b ++ ([Int.tmod (w64 ((s0.2.2.1.getD i5_a.toNat ([(0 : Int), (0 : Int), (0 : Int), (0 : Int)] : List Int)).getD k7_b.toNat 0)) (w64 ((2 : Int) + (Int.tmod (w64 (s0.1)) (2 : Int))))] : List Int))))))))
   (chk (small (o2100_a.length + 1) 24) ((rec_l40a (w64 (i5_a + 1)) (o2100_a ++ ([w6_b] : LL)))))
theorem wl40b (N : Nat) (s0 : Int × Int × LL × Unit) (i5_a : Int) (o2100_a : LL) (T40_0 : TS → Option (Int × LL)) (m : Nat) (k7_b : Int) (w6_b : List Int) : R40_1 N T40_0 (m + 1) (Sl40b s0 i5_a o2100_a k7_b w6_b) = cond (decide (k7_b < (w64 ((1 : Int) + (Int.tmod (w64 (s0.2.1)) (4 : Int)))))) (chk (decide (0 ≤ i5_a ∧ i5_a < (s0.2.2.1.length : Int))) (chk (decide (0 ≤ k7_b ∧ k7_b < (4 : Int))) (chk (decide (w64 ((2 : Int) + (Int.tmod (w64 (s0.1)) (2 : Int))) ≠ (0 : Int))) (chk (small (w6_b.length + 1) 8) ((R40_1 N T40_0 m (Sl40b s0 i5_a o2100_a (w64 (k7_b + 1)) (w6_b ++ ([Int.tmod (w64 ((s0.2.2.1.getD i5_a.toNat ([(0 : Int), (0 : Int), (0 : Int), (0 : Int)] : List Int)).getD k7_b.toNat 0)) (w64 ((2 : Int) + (Int.tmod (w64 (s0.1)) (2 : Int))))] : List Int)))))))))
   (chk (small (o2100_a.length + 1) 24) ((T40_0 (Sl40a s0 (w64 (i5_a + 1)) (o2100_a ++ ([w6_b] : LL)))))) := by kernel_rfl
theorem ql40b (N : Nat) (s0 : Int × Int × LL × Unit) (i5_a : Int) (o2100_a : LL) (T40_0 : TS → Option (Int × LL)) : ∀ (m : Nat) (k7_b : Int) (w6_b : List Int), R40_1 N T40_0 m (Sl40b s0 i5_a o2100_a k7_b w6_b) = l40b N s0 i5_a o2100_a (fun y0 y1 => T40_0 (Sl40a s0 y0 y1)) m k7_b w6_b
        | 0, _, _ => rfl
        | m + 1, k7_b, w6_b => by rw [wl40b]; simp only [l40b, ql40b N s0 i5_a o2100_a T40_0 m]
def l40a (N : Nat) (s0 : Int × Int × LL × Unit) : Nat → Int → LL → Option (Int × LL)
 | 0, _, _ => none
 | n + 1, i5_a, o2100_a => cond (decide (i5_a < (s0.2.2.1.length : Int))) (cond (decide (i5_a < (5 : Int))) ((l40b N s0 i5_a o2100_a (fun y0 y1 => (l40a N s0 n y0 y1)) N (0 : Int) ([] : List Int)))
   (cond ((o2100_a.length : Int) == (0 : Int)) (chk (mkOk (w64 ((1 : Int) + (Int.tmod (w64 (s0.2.1)) (4 : Int)))) (w64 ((1 : Int) + (Int.tmod (w64 (s0.2.1)) (4 : Int)))) 8) (chk (small (o2100_a.length + 1) 24) (some (w64 ((2 : Int) + (Int.tmod (w64 (s0.1)) (2 : Int))), o2100_a ++ ([List.replicate ((w64 ((1 : Int) + (Int.tmod (w64 (s0.2.1)) (4 : Int)))).toNat) (0 : Int)] : LL)))))
   (some (w64 ((2 : Int) + (Int.tmod (w64 (s0.1)) (2 : Int))), o2100_a))))
   (cond ((o2100_a.length : Int) == (0 : Int)) (chk (mkOk (w64 ((1 : Int) + (Int.tmod (w64 (s0.2.1)) (4 : Int)))) (w64 ((1 : Int) + (Int.tmod (w64 (s0.2.1)) (4 : Int)))) 8) (chk (small (o2100_a.length + 1) 24) (some (w64 ((2 : Int) + (Int.tmod (w64 (s0.1)) (2 : Int))), o2100_a ++ ([List.replicate ((w64 ((1 : Int) + (Int.tmod (w64 (s0.2.1)) (4 : Int)))).toNat) (0 : Int)] : LL)))))
   (some (w64 ((2 : Int) + (Int.tmod (w64 (s0.1)) (2 : Int))), o2100_a)))
theorem wl40a (N : Nat) (s0 : Int × Int × LL × Unit) (m : Nat) (i5_a : Int) (o2100_a : LL) : R40_0 N (m + 1) (Sl40a s0 i5_a o2100_a) = cond (decide (i5_a < (s0.2.2.1.length : Int))) (cond (decide (i5_a < (5 : Int))) ((R40_1 N (R40_0 N m) N (Sl40b s0 i5_a o2100_a (0 : Int) ([] : List Int))))
   (cond ((o2100_a.length : Int) == (0 : Int)) (chk (mkOk (w64 ((1 : Int) + (Int.tmod (w64 (s0.2.1)) (4 : Int)))) (w64 ((1 : Int) + (Int.tmod (w64 (s0.2.1)) (4 : Int)))) 8) (chk (small (o2100_a.length + 1) 24) (some (w64 ((2 : Int) + (Int.tmod (w64 (s0.1)) (2 : Int))), o2100_a ++ ([List.replicate ((w64 ((1 : Int) + (Int.tmod (w64 (s0.2.1)) (4 : Int)))).toNat) (0 : Int)] : LL)))))
   (some (w64 ((2 : Int) + (Int.tmod (w64 (s0.1)) (2 : Int))), o2100_a))))
   (cond ((o2100_a.length : Int) == (0 : Int)) (chk (mkOk (w64 ((1 : Int) + (Int.tmod (w64 (s0.2.1)) (4 : Int)))) (w64 ((1 : Int) + (Int.tmod (w64 (s0.2.1)) (4 : Int)))) 8) (chk (small (o2100_a.length + 1) 24) (some (w64 ((2 : Int) + (Int.tmod (w64 (s0.1)) (2 : Int))), o2100_a ++ ([List.replicate ((w64 ((1 : Int) + (Int.tmod (w64 (s0.2.1)) (4 : Int)))).toNat) (0 : Int)] : LL)))))
   (some (w64 ((2 : Int) + (Int.tmod (w64 (s0.1)) (2 : Int))), o2100_a))) := by kernel_rfl
theorem ql40a (N : Nat) (s0 : Int × Int × LL × Unit) : ∀ (m : Nat) (i5_a : Int) (o2100_a : LL), R40_0 N m (Sl40a s0 i5_a o2100_a) = l40a N s0 m i5_a o2100_a
        | 0, _, _ => rfl
        | m + 1, i5_a, o2100_a => by rw [wl40a]; simp only [l40a, ql40b, ql40a N s0 m]
def m40 (N : Nat) (s0 : Int × Int × LL × Unit) : Option (Int × LL) :=
   (l40a N s0 N (0 : Int) ([] : LL))
theorem wm40 (N : Nat) (s0 : Int × Int × LL × Unit) : callF (E40) lv40 N en40 c40 (resOf Tryd.f40) 66 [.dv (.pair (.int .u8) (.pair (.int .u8) (.pair (.sl (.arr 4 (.int .u8))) (.unit)))) s0] [] dec40 = (R40_0 N N (Sl40a s0 (0 : Int) ([] : LL))) := by kernel_rfl
theorem k40 (N : Nat) (s0 : Int × Int × LL × Unit) : callF (E40) lv40 N en40 c40 (resOf Tryd.f40) 66 [.dv (.pair (.int .u8) (.pair (.int .u8) (.pair (.sl (.arr 4 (.int .u8))) (.unit)))) s0] [] dec40 = m40 N s0 := by rw [wm40]; simp only [m40, ql40a]
theorem ok40 (a : Y40) (h : ∀ s0 r, a s0 = some r → (∃ N, m40 N s0 = some r)) : FnOk Tryd.prog 40 (F40 a) := by
 intro args Of x hx
 simp only [F40] at hx
 split at hx
 ·rename_i s0
  obtain ⟨N, hN⟩ := h _ _ hx
  refine liftedS (L := []) (rc := (fun i => ([(3, [some (.int .i64), none]), (13, [some (.int .i64), none]), (2, [some (.int .i64), none]), (66, [some (.int .i64), none])] : List (Nat × List (Option DT))).lookup i)) (fz := (fun i => ([52, 63] : List Nat).contains i)) (fn := Tryd.f40) (by kernel_rfl) (by kernel_rfl) (by kernel_rfl) (by kernel_rfl) rfl ?_ ((k40 N _).trans hN) ?_
  ·intro p hp; cases hp
  ·intro l o hd
   simp only [dec40] at hd
   split at hd
   ·rename_i heqd
    have hd0 := congrArg (fun c : List (List TV) => c.getD 0 []) heqd
    obtain rfl := oij hd; exact ⟨TV.sim_symm (TV.sim_st hd0), ⟨rfl, TO.sim_refl _, trivial⟩⟩
   ·cases hd
 ·cases hx
end Go.Proofs.YtbjfbbfglkmadaaDoor
