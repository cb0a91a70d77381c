/-
 The functions that the law reaches, told as plain functions.
-/
import Derived.Test.YtplbdongegfdnaaWM0
namespace Go.Proofs.Ytplbdongegfdnaa
open Go.RowKit
set_option linter.unusedVariables false
def E27 (a41 : Int → Int → Int → Option (Bool)) : Env := mkE TI TY [(41, F41 a41)] nrc nfz
noncomputable def c27 : Code := bodyOf Try.f27
def nm27_0 : Norm := ⟨[1, 22, 23, 24], [1], [], []⟩
def lv27 : Nat → Option Norm := norms [(6, nm27_0)]
def en27 : End := ⟨[], ⟨[51], [], [], []⟩⟩
def dec27 (l : List TV) (o : List (Nat × TO)) : Option (Int) := match l, o with | [.dv (.int .i64) x0], [] => some (x0) | _, _ => none
def Sl27a (r0 : Int × Int × List (Int × Int × Int × Unit) × Unit) (t24_a : Int) : TS := ⟨slots 51 [(1, .ptr 1 0 []), (22, .dv (.sl (.pair (.int .i64) (.pair (.int .i64) (.pair (.int .i64) (.unit))))) r0.2.2.1), (23, .dv (.int .i64) (r0.2.2.1.length : Int)), (24, .dv (.int .i64) t24_a)], [(1, .row (.pair (.int .i64) (.pair (.int .i64) (.pair (.sl (.pair (.int .i64) (.pair (.int .i64) (.pair (.int .i64) (.unit))))) (.unit)))) ([r0] : List (Int × Int × List (Int × Int × Int × Unit) × Unit)))]⟩
noncomputable def K27_0 (a41 : Int → Int → Int → Option (Bool)) (N : Nat) : Kont (Int) := kont (E27 a41) lv27 N c27 [1, 1, 0, 1, 0] (fin TI en27 (resOf Try.f27) dec27)
noncomputable def R27_0 (a41 : Int → Int → Int → Option (Bool)) (N : Nat) (m : Nat) : TS → Option (Int) := loopK (den (E27 a41) lv27 N (sub c27 [1, 1, 0, 1, 0, 0])) (TS.norm nm27_0) (K27_0 a41 N) m
def l27a (a41 : Int → Int → Int → Option (Bool)) (N : Nat) (r0 : Int × Int × List (Int × Int × Int × Unit) × Unit) : Nat → Int → Option (Int)
 | 0, _ => none
 | n + 1, t24_a => cond (decide (t24_a < (r0.2.2.1.length : Int))) (chk (decide (0 ≤ t24_a ∧ t24_a < (r0.2.2.1.length : Int))) ((a41 (0 : Int) ((r0.2.2.1.getD t24_a.toNat ((0 : Int), ((0 : Int), ((0 : Int), ())))).1) (w64 (r0.1 - (1 : Int)))).bind fun r3 =>
   cond (!r3) (some (5 : Int))
   ((a41 (0 : Int) (((r0.2.2.1.getD t24_a.toNat ((0 : Int), ((0 : Int), ((0 : Int), ())))).2).1) (w64 (r0.2.1 - (1 : Int)))).bind fun r4 =>
   cond (!r4) (some (5 : Int))
   ((a41 (0 : Int) ((((r0.2.2.1.getD t24_a.toNat ((0 : Int), ((0 : Int), ((0 : Int), ())))).2).2).1) (2 : Int)).bind fun r5 =>
   cond (!r5) (some (10 : Int))
   ((l27a a41 N r0 n (w64 (t24_a + (1 : Int)))))))))
   (some (0 : Int))
theorem wl27a (a41 : Int → Int → Int → Option (Bool)) (N : Nat) (r0 : Int × Int × List (Int × Int × Int × Unit) × Unit) (m : Nat) (t24_a : Int) : R27_0 a41 N (m + 1) (Sl27a r0 t24_a) = cond (decide (t24_a < (r0.2.2.1.length : Int))) (chk (decide (0 ≤ t24_a ∧ t24_a < (r0.2.2.1.length : Int))) ((a41 (0 : Int) ((r0.2.2.1.getD t24_a.toNat ((0 : Int), ((0 : Int), ((0 : Int), ())))).1) (w64 (r0.1 - (1 : Int)))).bind fun r3 =>
   cond (!r3) (some (5 : Int))
   ((a41 (0 : Int) (((r0.2.2.1.getD t24_a.toNat ((0 : Int), ((0 : Int), ((0 : Int), ())))).2).1) (w64 (r0.2.1 - (1 : Int)))).bind fun r4 =>
   cond (!r4) (some (5 : Int))
   ((a41 (0 : Int) ((((r0.2.2.1.getD t24_a.toNat ((0 : Int), ((0 : Int), ((0 : Int), ())))).2).2).1) (2 : Int)).bind fun r5 =>
   cond (!r5) (some (10 : Int))
   ((R27_0 a41 N m (Sl27a r0 (w64 (t24_a + (1 : Int))))))))))
   (some (0 : Int)) := by kernel_rfl
theorem ql27a (a41 : Int → Int → Int → Option (Bool)) (N : Nat) (r0 : Int × Int × List (Int × Int × Int × Unit) × Unit) : ∀ (m : Nat) (t24_a : Int), R27_0 a41 N m (Sl27a r0 t24_a) = l27a a41 N r0 m t24_a
        | 0, _ => rfl
        | m + 1, t24_a => by rw [wl27a]; simp only [l27a, ql27a a41 N r0 m]
def m27 (a41 : Int → Int → Int → Option (Bool)) (N : Nat) (r0 : Int × Int × List (Int × Int × Int × Unit) × Unit) : Option (Int) :=
   (a41 (1 : Int) r0.1 (6 : Int)).bind fun r1 =>
   cond (!r1) (some (4 : Int))
   ((a41 (1 : Int) r0.2.1 (6 : Int)).bind fun r2 =>
   cond (!r2) (some (4 : Int))
   (cond (decide ((r0.2.2.1.length : Int) > (24 : Int))) (some (2 : Int))
   ((l27a a41 N r0 N (0 : Int)))))
theorem wm27 (a41 : Int → Int → Int → Option (Bool)) (N : Nat) (r0 : Int × Int × List (Int × Int × Int × Unit) × Unit) : callF (E27 a41) lv27 N en27 c27 (resOf Try.f27) 50 [.dv (.pair (.int .i64) (.pair (.int .i64) (.pair (.sl (.pair (.int .i64) (.pair (.int .i64) (.pair (.int .i64) (.unit))))) (.unit)))) r0] [] dec27 = (a41 (1 : Int) r0.1 (6 : Int)).bind fun r1 =>
   cond (!r1) (some (4 : Int))
   ((a41 (1 : Int) r0.2.1 (6 : Int)).bind fun r2 =>
   cond (!r2) (some (4 : Int))
   (cond (decide ((r0.2.2.1.length : Int) > (24 : Int))) (some (2 : Int))
   ((R27_0 a41 N N (Sl27a r0 (0 : Int)))))) := by kernel_rfl
theorem k27 (a41 : Int → Int → Int → Option (Bool)) (N : Nat) (r0 : Int × Int × List (Int × Int × Int × Unit) × Unit) : callF (E27 a41) lv27 N en27 c27 (resOf Try.f27) 50 [.dv (.pair (.int .i64) (.pair (.int .i64) (.pair (.sl (.pair (.int .i64) (.pair (.int .i64) (.pair (.int .i64) (.unit))))) (.unit)))) r0] [] dec27 = m27 a41 N r0 := by rw [wm27]; simp only [m27, ql27a]
theorem ok27 (a41 : Int → Int → Int → Option (Bool)) (h41 : FnOk Try.prog 41 (F41 a41)) (a : (Int × Int × List (Int × Int × Int × Unit) × Unit) → Option (Int)) (h : ∀ r0 r, a r0 = some r → (∃ N, m27 a41 N r0 = some r)) : FnOk Try.prog 27 (F27 a) := by
 intro args Of x hx
 simp only [F27] at hx
 split at hx
 ·rename_i r0
  obtain ⟨N, hN⟩ := h _ _ hx
  refine lifted (L := [(41, F41 a41)]) (rc := nrc) (fz := nfz) (fn := Try.f27) (by kernel_rfl) (by kernel_rfl) (by kernel_rfl) (by kernel_rfl) rfl ?_ ((k27 a41 N _).trans hN) ?_
  ·intro p hp; simp only [List.mem_cons, List.not_mem_nil, or_false] at hp; rcases hp with rfl; exact h41
  ·intro l o hd
   simp only [dec27] at hd
   split at hd
   ·obtain rfl := Option.some.inj hd; exact ⟨rfl, rfl⟩
   ·cases hd
 ·cases hx
def E28 : Env := mkE TI TY [] (fun i => ([(5, [some (.pair (.int .i64) (.pair (.int .i64) (.pair (.sl (.pair (.int .i64) (.pair (.int .i64) (.pair (.int .i64) (.unit))))) (.unit)))), none]), (17, [some (.pair (.int .i64) (.pair (.int .i64) (.pair (.sl (.pair (.int .i64) (.pair (.int .i64) (.pair (.int .i64) (.unit))))) (.unit)))), none])] : List (Nat × List (Option DT))).lookup i) nfz
noncomputable def c28 : Code := bodyOf Try.f28
def nm28_0 : Norm := ⟨[1, 2, 4, 5, 19, 20, 21], [2, 4, 5, 16], [], []⟩
def lv28 : Nat → Option Norm := norms [(3, nm28_0)]
def en28 : End := ⟨[(69, .pair (.pair (.int .i64) (.pair (.int .i64) (.pair (.sl (.pair (.int .i64) (.pair (.int .i64) (.pair (.int .i64) (.unit))))) (.unit)))) (.pair (.sl (.int .u16)) (.unit)))], ⟨[69], [], [], []⟩⟩
def dec28 (l : List TV) (o : List (Nat × TO)) : Option ((Int × Int × List (Int × Int × Int × Unit) × Unit) × List Int × Unit) := match l, o with | [.dv (.pair (.pair (.int .i64) (.pair (.int .i64) (.pair (.sl (.pair (.int .i64) (.pair (.int .i64) (.pair (.int .i64) (.unit))))) (.unit)))) (.pair (.sl (.int .u16)) (.unit))) x0], [] => some (x0) | _, _ => none
def Sl28a (r0 : Int × Int × List (Int × Int × Int × Unit) × Unit) (without1 : Int) (t21_a : Int) (o16_a : List Int) : TS := ⟨slots 69 [(1, .dv (.int .i64) without1), (2, .ptr 2 0 []), (4, .ptr 4 0 []), (5, .ptr 5 0 []), (19, .dv (.sl (.pair (.int .i64) (.pair (.int .i64) (.pair (.int .i64) (.unit))))) r0.2.2.1), (20, .dv (.int .i64) (r0.2.2.1.length : Int)), (21, .dv (.int .i64) t21_a)], [(2, .row (.pair (.int .i64) (.pair (.int .i64) (.pair (.sl (.pair (.int .i64) (.pair (.int .i64) (.pair (.int .i64) (.unit))))) (.unit)))) ([r0] : List (Int × Int × List (Int × Int × Int × Unit) × Unit))), (4, .row (.pair (.pair (.int .i64) (.pair (.int .i64) (.pair (.sl (.pair (.int .i64) (.pair (.int .i64) (.pair (.int .i64) (.unit))))) (.unit)))) (.pair (.sl (.int .u16)) (.unit))) ([(((0 : Int), ((0 : Int), (([] : List (Int × Int × Int × Unit)), ()))), (([] : List Int), ()))] : List ((Int × Int × List (Int × Int × Int × Unit) × Unit) × List Int × Unit))), (5, .rcd [.dv (.pair (.int .i64) (.pair (.int .i64) (.pair (.sl (.pair (.int .i64) (.pair (.int .i64) (.pair (.int .i64) (.unit))))) (.unit)))) r0, .row 16]), (16, .row (.int .u16) o16_a)]⟩
noncomputable def K28_0 (N : Nat) : Kont ((Int × Int × List (Int × Int × Int × Unit) × Unit) × List Int × Unit) := kont (E28) lv28 N c28 [1, 1, 0, 1, 0] (fin TI en28 (resOf Try.f28) dec28)
noncomputable def R28_0 (N : Nat) (m : Nat) : TS → Option ((Int × Int × List (Int × Int × Int × Unit) × Unit) × List Int × Unit) := loopK (den (E28) lv28 N (sub c28 [1, 1, 0, 1, 0, 0])) (TS.norm nm28_0) (K28_0 N) m
def l28a (N : Nat) (r0 : Int × Int × List (Int × Int × Int × Unit) × Unit) (without1 : Int) : Nat → Int → (List Int) → Option ((Int × Int × List (Int × Int × Int × Unit) × Unit) × List Int × Unit)
 | 0, _, _ => none
 | n + 1, t21_a, o16_a => cond (decide (t21_a < (r0.2.2.1.length : Int))) (chk (decide (0 ≤ t21_a ∧ t21_a < (r0.2.2.1.length : Int))) (cond (t21_a != without1) (cond (((((r0.2.2.1.getD t21_a.toNat ((0 : Int), ((0 : Int), ((0 : Int), ())))).2).2).1) != (2 : Int)) (chk (decide (0 ≤ (r0.2.2.1.getD t21_a.toNat ((0 : Int), ((0 : Int), ((0 : Int), ())))).1 ∧ (r0.2.2.1.getD t21_a.toNat ((0 : Int), ((0 : Int), ((0 : Int), ())))).1 < (o16_a.length : Int))) (chk (decide (0 ≤ w64 (r0.1 + (((r0.2.2.1.getD t21_a.toNat ((0 : Int), ((0 : Int), ((0 : Int), ())))).2).1)))) (chk (decide (0 ≤ (r0.2.2.1.getD t21_a.toNat ((0 : Int), ((0 : Int), ((0 : Int), ())))).1 ∧ (r0.2.2.1.getD t21_a.toNat ((0 : Int), ((0 : Int), ((0 : Int), ())))).1 < (o16_a.length : Int))) (cond (t21_a != without1) (cond (((((r0.2.2.1.getD t21_a.toNat ((0 : Int), ((0 : Int), ((0 : Int), ())))).2).2).1) != (1 : Int)) (chk (decide (0 ≤ w64 (r0.1 + (((r0.2.2.1.getD t21_a.toNat ((0 : Int), ((0 : Int), ((0 : Int), ())))).2).1)) ∧ w64 (r0.1 + (((r0.2.2.1.getD t21_a.toNat ((0 : Int), ((0 : Int), ((0 : Int), ())))).2).1)) < ((o16_a.set (((r0.2.2.1.getD t21_a.toNat ((0 : Int), ((0 : Int), ((0 : Int), ())))).1).toNat) (bOr .u16 (o16_a.getD (((r0.2.2.1.getD t21_a.toNat ((0 : Int), ((0 : Int), ((0 : Int), ())))).1).toNat) (0 : Int)) (IntKind.wrap .u16 ((1 : Int) * 2 ^ min (Int.toNat (w64 (r0.1 + (((r0.2.2.1.getD t21_a.toNat ((0 : Int), ((0 : Int), ((0 : Int), ())))).2).1)))) 16)))).length : Int))) (chk (decide (0 ≤ (r0.2.2.1.getD t21_a.toNat ((0 : Int), ((0 : Int), ((0 : Int), ())))).1)) (chk (decide (0 ≤ w64 (r0.1 + (((r0.2.2.1.getD t21_a.toNat ((0 : Int), ((0 : Int), ((0 : Int), ())))).2).1)) ∧ w64 (r0.1 + (((r0.2.2.1.getD t21_a.toNat ((0 : Int), ((0 : Int), ((0 : Int), ())))).2).1)) < ((o16_a.set (((r0.2.2.1.getD t21_a.toNat ((0 : Int), ((0 : Int), ((0 : Int), ())))).1).toNat) (bOr .u16 (o16_a.getD (((r0.2.2.1.getD t21_a.toNat ((0 : Int), ((0 : Int), ((0 : Int), ())))).1).toNat) (0 : Int)) (IntKind.wrap .u16 ((1 : Int) * 2 ^ min (Int.toNat (w64 (r0.1 + (((r0.2.2.1.getD t21_a.toNat ((0 : Int), ((0 : Int), ((0 : Int), ())))).2).1)))) 16)))).length : Int))) ((l28a N r0 without1 n (w64 (t21_a + (1 : Int))) ((o16_a.set (((r0.2.2.1.getD t21_a.toNat ((0 : Int), ((0 : Int), ((0 : Int), ())))).1).toNat) (bOr .u16 (o16_a.getD (((r0.2.2.1.getD t21_a.toNat ((0 : Int), ((0 : Int), ((0 : Int), ())))).1).toNat) (0 : Int)) (IntKind.wrap .u16 ((1 : Int) * 2 ^ min (Int.toNat (w64 (r0.1 + (((r0.2.2.1.getD t21_a.toNat ((0 : Int), ((0 : Int), ((0 : Int), ())))).2).1)))) 16)))).set ((w64 (r0.1 + (((r0.2.2.1.getD t21_a.toNat ((0 : Int), ((0 : Int), ((0 : Int), ())))).2).1))).toNat) (bOr .u16 ((o16_a.set (((r0.2.2.1.getD t21_a.toNat ((0 : Int), ((0 : Int), ((0 : Int), ())))).1).toNat) (bOr .u16 (o16_a.getD (((r0.2.2.1.getD t21_a.toNat ((0 : Int), ((0 : Int), ((0 : Int), ())))).1).toNat) (0 : Int)) (IntKind.wrap .u16 ((1 : Int) * 2 ^ min (Int.toNat (w64 (r0.1 + (((r0.2.2.1.getD t21_a.toNat ((0 : Int), ((0 : Int), ((0 : Int), ())))).2).1)))) 16)))).getD ((w64 (r0.1 + (((r0.2.2.1.getD t21_a.toNat ((0 : Int), ((0 : Int), ((0 : Int), ())))).2).1))).toNat) (0 : Int)) (IntKind.wrap .u16 ((1 : Int) * 2 ^ min (Int.toNat ((r0.2.2.1.getD t21_a.toNat ((0 : Int), ((0 : Int), ((0 : Int), ())))).1)) 16)))))))))
   ((l28a N r0 without1 n (w64 (t21_a + (1 : Int))) (o16_a.set (((r0.2.2.1.getD t21_a.toNat ((0 : Int), ((0 : Int), ((0 : Int), ())))).1).toNat) (bOr .u16 (o16_a.getD (((r0.2.2.1.getD t21_a.toNat ((0 : Int), ((0 : Int), ((0 : Int), ())))).1).toNat) (0 : Int)) (IntKind.wrap .u16 ((1 : Int) * 2 ^ min (Int.toNat (w64 (r0.1 + (((r0.2.2.1.getD t21_a.toNat ((0 : Int), ((0 : Int), ((0 : Int), ())))).2).1)))) 16)))))))
   ((l28a N r0 without1 n (w64 (t21_a + (1 : Int))) (o16_a.set (((r0.2.2.1.getD t21_a.toNat ((0 : Int), ((0 : Int), ((0 : Int), ())))).1).toNat) (bOr .u16 (o16_a.getD (((r0.2.2.1.getD t21_a.toNat ((0 : Int), ((0 : Int), ((0 : Int), ())))).1).toNat) (0 : Int)) (IntKind.wrap .u16 ((1 : Int) * 2 ^ min (Int.toNat (w64 (r0.1 + (((r0.2.2.1.getD t21_a.toNat ((0 : Int), ((0 : Int), ((0 : Int), ())))).2).1)))) 16))))))))))
   (cond (t21_a != without1) (cond (((((r0.2.2.1.getD t21_a.toNat ((0 : Int), ((0 : Int), ((0 : Int), ())))).2).2).1) != (1 : Int)) (chk (decide (0 ≤ w64 (r0.1 + (((r0.2.2.1.getD t21_a.toNat ((0 : Int), ((0 : Int), ((0 : Int), ())))).2).1)) ∧ w64 (r0.1 + (((r0.2.2.1.getD t21_a.toNat ((0 : Int), ((0 : Int), ((0 : Int), ())))).2).1)) < (o16_a.length : Int))) (chk (decide (0 ≤ (r0.2.2.1.getD t21_a.toNat ((0 : Int), ((0 : Int), ((0 : Int), ())))).1)) (chk (decide (0 ≤ w64 (r0.1 + (((r0.2.2.1.getD t21_a.toNat ((0 : Int), ((0 : Int), ((0 : Int), ())))).2).1)) ∧ w64 (r0.1 + (((r0.2.2.1.getD t21_a.toNat ((0 : Int), ((0 : Int), ((0 : Int), ())))).2).1)) < (o16_a.length : Int))) ((l28a N r0 without1 n (w64 (t21_a + (1 : Int))) (o16_a.set ((w64 (r0.1 + (((r0.2.2.1.getD t21_a.toNat ((0 : Int), ((0 : Int), ((0 : Int), ())))).2).1))).toNat) (bOr .u16 (o16_a.getD ((w64 (r0.1 + (((r0.2.2.1.getD t21_a.toNat ((0 : Int), ((0 : Int), ((0 : Int), ())))).2).1))).toNat) (0 : Int)) (IntKind.wrap .u16 ((1 : Int) * 2 ^ min (Int.toNat ((r0.2.2.1.getD t21_a.toNat ((0 : Int), ((0 : Int), ((0 : Int), ())))).1)) 16)))))))))
   ((l28a N r0 without1 n (w64 (t21_a + (1 : Int))) o16_a)))
   ((l28a N r0 without1 n (w64 (t21_a + (1 : Int))) o16_a))))
   (cond (t21_a != without1) (cond (((((r0.2.2.1.getD t21_a.toNat ((0 : Int), ((0 : Int), ((0 : Int), ())))).2).2).1) != (1 : Int)) (chk (decide (0 ≤ w64 (r0.1 + (((r0.2.2.1.getD t21_a.toNat ((0 : Int), ((0 : Int), ((0 : Int), ())))).2).1)) ∧ w64 (r0.1 + (((r0.2.2.1.getD t21_a.toNat ((0 : Int), ((0 : Int), ((0 : Int), ())))).2).1)) < (o16_a.length : Int))) (chk (decide (0 ≤ (r0.2.2.1.getD t21_a.toNat ((0 : Int), ((0 : Int), ((0 : Int), ())))).1)) (chk (decide (0 ≤ w64 (r0.1 + (((r0.2.2.1.getD t21_a.toNat ((0 : Int), ((0 : Int), ((0 : Int), ())))).2).1)) ∧ w64 (r0.1 + (((r0.2.2.1.getD t21_a.toNat ((0 : Int), ((0 : Int), ((0 : Int), ())))).2).1)) < (o16_a.length : Int))) ((l28a N r0 without1 n (w64 (t21_a + (1 : Int))) (o16_a.set ((w64 (r0.1 + (((r0.2.2.1.getD t21_a.toNat ((0 : Int), ((0 : Int), ((0 : Int), ())))).2).1))).toNat) (bOr .u16 (o16_a.getD ((w64 (r0.1 + (((r0.2.2.1.getD t21_a.toNat ((0 : Int), ((0 : Int), ((0 : Int), ())))).2).1))).toNat) (0 : Int)) (IntKind.wrap .u16 ((1 : Int) * 2 ^ min (Int.toNat ((r0.2.2.1.getD t21_a.toNat ((0 : Int), ((0 : Int), ((0 : Int), ())))).1)) 16)))))))))
   ((l28a N r0 without1 n (w64 (t21_a + (1 : Int))) o16_a)))
   ((l28a N r0 without1 n (w64 (t21_a + (1 : Int))) o16_a)))))
   (some (r0, (o16_a, ())))
theorem wl28a (N : Nat) (r0 : Int × Int × List (Int × Int × Int × Unit) × Unit) (without1 : Int) (m : Nat) (t21_a : Int) (o16_a : List Int) : R28_0 N (m + 1) (Sl28a r0 without1 t21_a o16_a) = cond (decide (t21_a < (r0.2.2.1.length : Int))) (chk (decide (0 ≤ t21_a ∧ t21_a < (r0.2.2.1.length : Int))) (cond (t21_a != without1) (cond (((((r0.2.2.1.getD t21_a.toNat ((0 : Int), ((0 : Int), ((0 : Int), ())))).2).2).1) != (2 : Int)) (chk (decide (0 ≤ (r0.2.2.1.getD t21_a.toNat ((0 : Int), ((0 : Int), ((0 : Int), ())))).1 ∧ (r0.2.2.1.getD t21_a.toNat ((0 : Int), ((0 : Int), ((0 : Int), ())))).1 < (o16_a.length : Int))) (chk (decide (0 ≤ w64 (r0.1 + (((r0.2.2.1.getD t21_a.toNat ((0 : Int), ((0 : Int), ((0 : Int), ())))).2).1)))) (chk (decide (0 ≤ (r0.2.2.1.getD t21_a.toNat ((0 : Int), ((0 : Int), ((0 : Int), ())))).1 ∧ (r0.2.2.1.getD t21_a.toNat ((0 : Int), ((0 : Int), ((0 : Int), ())))).1 < (o16_a.length : Int))) (cond (t21_a != without1) (cond (((((r0.2.2.1.getD t21_a.toNat ((0 : Int), ((0 : Int), ((0 : Int), ())))).2).2).1) != (1 : Int)) (chk (decide (0 ≤ w64 (r0.1 + (((r0.2.2.1.getD t21_a.toNat ((0 : Int), ((0 : Int), ((0 : Int), ())))).2).1)) ∧ w64 (r0.1 + (((r0.2.2.1.getD t21_a.toNat ((0 : Int), ((0 : Int), ((0 : Int), ())))).2).1)) < ((o16_a.set (((r0.2.2.1.getD t21_a.toNat ((0 : Int), ((0 : Int), ((0 : Int), ())))).1).toNat) (bOr .u16 (o16_a.getD (((r0.2.2.1.getD t21_a.toNat ((0 : Int), ((0 : Int), ((0 : Int), ())))).1).toNat) (0 : Int)) (IntKind.wrap .u16 ((1 : Int) * 2 ^ min (Int.toNat (w64 (r0.1 + (((r0.2.2.1.getD t21_a.toNat ((0 : Int), ((0 : Int), ((0 : Int), ())))).2).1)))) 16)))).length : Int))) (chk (decide (0 ≤ (r0.2.2.1.getD t21_a.toNat ((0 : Int), ((0 : Int), ((0 : Int), ())))).1)) (chk (decide (0 ≤ w64 (r0.1 + (((r0.2.2.1.getD t21_a.toNat ((0 : Int), ((0 : Int), ((0 : Int), ())))).2).1)) ∧ w64 (r0.1 + (((r0.2.2.1.getD t21_a.toNat ((0 : Int), ((0 : Int), ((0 : Int), ())))).2).1)) < ((o16_a.set (((r0.2.2.1.getD t21_a.toNat ((0 : Int), ((0 : Int), ((0 : Int), ())))).1).toNat) (bOr .u16 (o16_a.getD (((r0.2.2.1.getD t21_a.toNat ((0 : Int), ((0 : Int), ((0 : Int), ())))).1).toNat) (0 : Int)) (IntKind.wrap .u16 ((1 : Int) * 2 ^ min (Int.toNat (w64 (r0.1 + (((r0.2.2.1.getD t21_a.toNat ((0 : Int), ((0 : Int), ((0 : Int), ())))).2).1)))) 16)))).length : Int))) ((R28_0 N m (Sl28a r0 without1 (w64 (t21_a + (1 : Int))) ((o16_a.set (((r0.2.2.1.getD t21_a.toNat ((0 : Int), ((0 : Int), ((0 : Int), ())))).1).toNat) (bOr .u16 (o16_a.getD (((r0.2.2.1.getD t21_a.toNat ((0 : Int), ((0 : Int), ((0 : Int), ())))).1).toNat) (0 : Int)) (IntKind.wrap .u16 ((1 : Int) * 2 ^ min (Int.toNat (w64 (r0.1 + (((r0.2.2.1.getD t21_a.toNat ((0 : Int), ((0 : Int), ((0 : Int), ())))).2).1)))) 16)))).set ((w64 (r0.1 + (((r0.2.2.1.getD t21_a.toNat ((0 : Int), ((0 : Int), ((0 : Int), ())))).2).1))).toNat) (bOr .u16 ((o16_a.set (((r0.2.2.1.getD t21_a.toNat ((0 : Int), ((0 : Int), ((0 : Int), ())))).1).toNat) (bOr .u16 (o16_a.getD (((r0.2.2.1.getD t21_a.toNat ((0 : Int), ((0 : Int), ((0 : Int), ())))).1).toNat) (0 : Int)) (IntKind.wrap .u16 ((1 : Int) * 2 ^ min (Int.toNat (w64 (r0.1 + (((r0.2.2.1.getD t21_a.toNat ((0 : Int), ((0 : Int), ((0 : Int), ())))).2).1)))) 16)))).getD ((w64 (r0.1 + (((r0.2.2.1.getD t21_a.toNat ((0 : Int), ((0 : Int), ((0 : Int), ())))).2).1))).toNat) (0 : Int)) (IntKind.wrap .u16 ((1 : Int) * 2 ^ min (Int.toNat ((r0.2.2.1.getD t21_a.toNat ((0 : Int), ((0 : Int), ((0 : Int), ())))).1)) 16))))))))))
   ((R28_0 N m (Sl28a r0 without1 (w64 (t21_a + (1 : Int))) (o16_a.set (((r0.2.2.1.getD t21_a.toNat ((0 : Int), ((0 : Int), ((0 : Int), ())))).1).toNat) (bOr .u16 (o16_a.getD (((r0.2.2.1.getD t21_a.toNat ((0 : Int), ((0 : Int), ((0 : Int), ())))).1).toNat) (0 : Int)) (IntKind.wrap .u16 ((1 : Int) * 2 ^ min (Int.toNat (w64 (r0.1 + (((r0.2.2.1.getD t21_a.toNat ((0 : Int), ((0 : Int), ((0 : Int), ())))).2).1)))) 16))))))))
   ((R28_0 N m (Sl28a r0 without1 (w64 (t21_a + (1 : Int))) (o16_a.set (((r0.2.2.1.getD t21_a.toNat ((0 : Int), ((0 : Int), ((0 : Int), ())))).1).toNat) (bOr .u16 (o16_a.getD (((r0.2.2.1.getD t21_a.toNat ((0 : Int), ((0 : Int), ((0 : Int), ())))).1).toNat) (0 : Int)) (IntKind.wrap .u16 ((1 : Int) * 2 ^ min (Int.toNat (w64 (r0.1 + (((r0.2.2.1.getD t21_a.toNat ((0 : Int), ((0 : Int), ((0 : Int), ())))).2).1)))) 16)))))))))))
   (cond (t21_a != without1) (cond (((((r0.2.2.1.getD t21_a.toNat ((0 : Int), ((0 : Int), ((0 : Int), ())))).2).2).1) != (1 : Int)) (chk (decide (0 ≤ w64 (r0.1 + (((r0.2.2.1.getD t21_a.toNat ((0 : Int), ((0 : Int), ((0 : Int), ())))).2).1)) ∧ w64 (r0.1 + (((r0.2.2.1.getD t21_a.toNat ((0 : Int), ((0 : Int), ((0 : Int), ())))).2).1)) < (o16_a.length : Int))) (chk (decide (0 ≤ (r0.2.2.1.getD t21_a.toNat ((0 : Int), ((0 : Int), ((0 : Int), ())))).1)) (chk (decide (0 ≤ w64 (r0.1 + (((r0.2.2.1.getD t21_a.toNat ((0 : Int), ((0 : Int), ((0 : Int), ())))).2).1)) ∧ w64 (r0.1 + (((r0.2.2.1.getD t21_a.toNat ((0 : Int), ((0 : Int), ((0 : Int), ())))).2).1)) < (o16_a.length : Int))) ((R28_0 N m (Sl28a r0 without1 (w64 (t21_a + (1 : Int))) (o16_a.set ((w64 (r0.1 + (((r0.2.2.1.getD t21_a.toNat ((0 : Int), ((0 : Int), ((0 : Int), ())))).2).1))).toNat) (bOr .u16 (o16_a.getD ((w64 (r0.1 + (((r0.2.2.1.getD t21_a.toNat ((0 : Int), ((0 : Int), ((0 : Int), ())))).2).1))).toNat) (0 : Int)) (IntKind.wrap .u16 ((1 : Int) * 2 ^ min (Int.toNat ((r0.2.2.1.getD t21_a.toNat ((0 : Int), ((0 : Int), ((0 : Int), ())))).1)) 16))))))))))
   ((R28_0 N m (Sl28a r0 without1 (w64 (t21_a + (1 : Int))) o16_a))))
   ((R28_0 N m (Sl28a r0 without1 (w64 (t21_a + (1 : Int))) o16_a)))))
   (cond (t21_a != without1) (cond (((((r0.2.2.1.getD t21_a.toNat ((0 : Int), ((0 : Int), ((0 : Int), ())))).2).2).1) != (1 : Int)) (chk (decide (0 ≤ w64 (r0.1 + (((r0.2.2.1.getD t21_a.toNat ((0 : Int), ((0 : Int), ((0 : Int), ())))).2).1)) ∧ w64 (r0.1 + (((r0.2.2.1.getD t21_a.toNat ((0 : Int), ((0 : Int), ((0 : Int), ())))).2).1)) < (o16_a.length : Int))) (chk (decide (0 ≤ (r0.2.2.1.getD t21_a.toNat ((0 : Int), ((0 : Int), ((0 : Int), ())))).1)) (chk (decide (0 ≤ w64 (r0.1 + (((r0.2.2.1.getD t21_a.toNat ((0 : Int), ((0 : Int), ((0 : Int), ())))).2).1)) ∧ w64 (r0.1 + (((r0.2.2.1.getD t21_a.toNat ((0 : Int), ((0 : Int), ((0 : Int), ())))).2).1)) < (o16_a.length : Int))) ((R28_0 N m (Sl28a r0 without1 (w64 (t21_a + (1 : Int))) (o16_a.set ((w64 (r0.1 + (((r0.2.2.1.getD t21_a.toNat ((0 : Int), ((0 : Int), ((0 : Int), ())))).2).1))).toNat) (bOr .u16 (o16_a.getD ((w64 (r0.1 + (((r0.2.2.1.getD t21_a.toNat ((0 : Int), ((0 : Int), ((0 : Int), ())))).2).1))).toNat) (0 : Int)) (IntKind.wrap .u16 ((1 : Int) * 2 ^ min (Int.toNat ((r0.2.2.1.getD t21_a.toNat ((0 : Int), ((0 : Int), ((0 : Int), ())))).1)) 16))))))))))
   ((R28_0 N m (Sl28a r0 without1 (w64 (t21_a + (1 : Int))) o16_a))))
   ((R28_0 N m (Sl28a r0 without1 (w64 (t21_a + (1 : Int))) o16_a))))))
   (some (r0, (o16_a, ()))) := by kernel_rfl
theorem ql28a (N : Nat) (r0 : Int × Int × List (Int × Int × Int × Unit) × Unit) (without1 : Int) : ∀ (m : Nat) (t21_a : Int) (o16_a : List Int), R28_0 N m (Sl28a r0 without1 t21_a o16_a) = l28a N r0 without1 m t21_a o16_a
        | 0, _, _ => rfl
        | m + 1, t21_a, o16_a => by rw [wl28a]; simp only [l28a, ql28a N r0 without1 m]
def m28 (N : Nat) (r0 : Int × Int × List (Int × Int × Int × Unit) × Unit) (without1 : Int) : Option ((Int × Int × List (Int × Int × Int × Unit) × Unit) × List Int × Unit) :=
   chk (mkOk (w64 (r0.1 + r0.2.1)) (w64 (r0.1 + r0.2.1)) 2) ((l28a N r0 without1 N (0 : Int) (List.replicate ((w64 (r0.1 + r0.2.1)).toNat) (0 : Int))))
theorem wm28 (N : Nat) (r0 : Int × Int × List (Int × Int × Int × Unit) × Unit) (without1 : Int) : callF (E28) lv28 N en28 c28 (resOf Try.f28) 67 [.dv (.pair (.int .i64) (.pair (.int .i64) (.pair (.sl (.pair (.int .i64) (.pair (.int .i64) (.pair (.int .i64) (.unit))))) (.unit)))) r0, .dv (.int .i64) without1] [] dec28 = chk (mkOk (w64 (r0.1 + r0.2.1)) (w64 (r0.1 + r0.2.1)) 2) ((R28_0 N N (Sl28a r0 without1 (0 : Int) (List.replicate ((w64 (r0.1 + r0.2.1)).toNat) (0 : Int))))) := by kernel_rfl
theorem k28 (N : Nat) (r0 : Int × Int × List (Int × Int × Int × Unit) × Unit) (without1 : Int) : callF (E28) lv28 N en28 c28 (resOf Try.f28) 67 [.dv (.pair (.int .i64) (.pair (.int .i64) (.pair (.sl (.pair (.int .i64) (.pair (.int .i64) (.pair (.int .i64) (.unit))))) (.unit)))) r0, .dv (.int .i64) without1] [] dec28 = m28 N r0 without1 := by rw [wm28]; simp only [m28, ql28a]
theorem ok28 (a : (Int × Int × List (Int × Int × Int × Unit) × Unit) → Int → Option ((Int × Int × List (Int × Int × Int × Unit) × Unit) × List Int × Unit)) (h : ∀ r0 without1 r, a r0 without1 = some r → (∃ N, m28 N r0 without1 = some r)) : FnOk Try.prog 28 (F28 a) := by
 intro args Of x hx
 simp only [F28] at hx
 split at hx
 ·rename_i r0 without1
  obtain ⟨N, hN⟩ := h _ _ _ hx
  refine lifted (L := []) (rc := (fun i => ([(5, [some (.pair (.int .i64) (.pair (.int .i64) (.pair (.sl (.pair (.int .i64) (.pair (.int .i64) (.pair (.int .i64) (.unit))))) (.unit)))), none]), (17, [some (.pair (.int .i64) (.pair (.int .i64) (.pair (.sl (.pair (.int .i64) (.pair (.int .i64) (.pair (.int .i64) (.unit))))) (.unit)))), none])] : List (Nat × List (Option DT))).lookup i)) (fz := nfz) (fn := Try.f28) (by kernel_rfl) (by kernel_rfl) (by kernel_rfl) (by kernel_rfl) rfl ?_ ((k28 N _ _).trans hN) ?_
  ·intro p hp; cases hp
  ·intro l o hd
   simp only [dec28] at hd
   split at hd
   ·obtain rfl := Option.some.inj hd; exact ⟨rfl, rfl⟩
   ·cases hd
 ·cases hx
def E38 : Env := mkE TI TY [] nrc nfz
noncomputable def c38 : Code := bodyOf Try.f38
def lv38 : Nat → Option Norm := norms []
def en38 : End := ⟨[], ⟨[10], [], [], []⟩⟩
def dec38 (l : List TV) (o : List (Nat × TO)) : Option (Bool) := match l, o with | [.dv (.bool) x0], [] => some (x0) | _, _ => none
def m38 (N : Nat) (s0 : Int) (i1 : Int) : Option (Bool) :=
   chk (decide (0 ≤ i1)) (some ((bAnd .u16 (Int.fdiv s0 (2 ^ min (Int.toNat i1) 16)) (1 : Int)) == (1 : Int)))
theorem k38 (N : Nat) (s0 : Int) (i1 : Int) : callF (E38) lv38 N en38 c38 (resOf Try.f38) 8 [.dv (.int .u16) s0, .dv (.int .i64) i1] [] dec38 = m38 N s0 i1 := by kernel_rfl
theorem ok38 (a : Int → Int → Option (Bool)) (h : ∀ s0 i1 r, a s0 i1 = some r → (∃ N, m38 N s0 i1 = some r)) : FnOk Try.prog 38 (F38 a) := by
 intro args Of x hx
 simp only [F38] at hx
 split at hx
 ·rename_i s0 i1
  obtain ⟨N, hN⟩ := h _ _ _ hx
  refine lifted (L := []) (rc := nrc) (fz := nfz) (fn := Try.f38) (by kernel_rfl) (by kernel_rfl) (by kernel_rfl) (by kernel_rfl) rfl ?_ ((k38 N _ _).trans hN) ?_
  ·intro p hp; cases hp
  ·intro l o hd
   simp only [dec38] at hd
   split at hd
   ·obtain rfl := Option.some.inj hd; exact ⟨rfl, rfl⟩
   ·cases hd
 ·cases hx
def E72 (a38 : Int → Int → Option (Bool)) : Env := mkE TI TY [(38, F38 a38)] nrc nfz
noncomputable def c72 : Code := bodyOf Try.f72
def nm72_0 : Norm := ⟨[2, 5, 12, 13], [2], [], []⟩
def nm72_1 : Norm := ⟨[2, 5, 12, 13, 16, 17, 18], [2], [], []⟩
def lv72 : Nat → Option Norm := norms [(3, nm72_0), (5, nm72_1)]
def en72 : End := ⟨[], ⟨[32], [], [], []⟩⟩
def dec72 (l : List TV) (o : List (Nat × TO)) : Option (Int) := match l, o with | [.dv (.int .u16) x0], [] => some (x0) | _, _ => none
def Sl72b (f0 : (Int × Int × List (Int × Int × Int × Unit) × Unit) × List Int × Unit) (t13_a : Int) (out5_b : Int) (t18_b : Int) : TS := ⟨slots 32 [(2, .ptr 2 0 []), (5, .dv (.int .u16) out5_b), (12, .dv (.int .i64) (f0.2.1.length : Int)), (13, .dv (.int .i64) t13_a), (16, .dv (.sl (.int .u16)) f0.2.1), (17, .dv (.int .i64) (f0.2.1.length : Int)), (18, .dv (.int .i64) t18_b)], [(2, .row (.pair (.pair (.int .i64) (.pair (.int .i64) (.pair (.sl (.pair (.int .i64) (.pair (.int .i64) (.pair (.int .i64) (.unit))))) (.unit)))) (.pair (.sl (.int .u16)) (.unit))) ([f0] : List ((Int × Int × List (Int × Int × Int × Unit) × Unit) × List Int × Unit)))]⟩
def Sl72a (f0 : (Int × Int × List (Int × Int × Int × Unit) × Unit) × List Int × Unit) (out5_a : Int) (t13_a : Int) : TS := ⟨slots 32 [(2, .ptr 2 0 []), (5, .dv (.int .u16) out5_a), (12, .dv (.int .i64) (f0.2.1.length : Int)), (13, .dv (.int .i64) t13_a)], [(2, .row (.pair (.pair (.int .i64) (.pair (.int .i64) (.pair (.sl (.pair (.int .i64) (.pair (.int .i64) (.pair (.int .i64) (.unit))))) (.unit)))) (.pair (.sl (.int .u16)) (.unit))) ([f0] : List ((Int × Int × List (Int × Int × Int × Unit) × Unit) × List Int × Unit)))]⟩
noncomputable def K72_0 (a38 : Int → Int → Option (Bool)) (N : Nat) : Kont (Int) := kont (E72 a38) lv72 N c72 [1, 1, 0, 1, 0] (fin TI en72 (resOf Try.f72) dec72)
noncomputable def R72_0 (a38 : Int → Int → Option (Bool)) (N : Nat) (m : Nat) : TS → Option (Int) := loopK (den (E72 a38) lv72 N (sub c72 [1, 1, 0, 1, 0, 0])) (TS.norm nm72_0) (K72_0 a38 N) m
noncomputable def K72_1 (a38 : Int → Int → Option (Bool)) (N : Nat) (T72_0 : TS → Option (Int)) : Kont (Int) := kont (E72 a38) lv72 N (sub c72 [1, 1, 0, 1, 0, 0]) [1, 1, 0, 0, 1, 0] (kloop (TS.norm nm72_0) (K72_0 a38 N) T72_0)
noncomputable def R72_1 (a38 : Int → Int → Option (Bool)) (N : Nat) (T72_0 : TS → Option (Int)) (m : Nat) : TS → Option (Int) := loopK (den (E72 a38) lv72 N (sub c72 [1, 1, 0, 1, 0, 0, 1, 1, 0, 0, 1, 0, 0])) (TS.norm nm72_1) (K72_1 a38 N T72_0) m
def l72b (a38 : Int → Int → Option (Bool)) (N : Nat) (f0 : (Int × Int × List (Int × Int × Int × Unit) × Unit) × List Int × Unit) (t13_a : Int) (rec_l72a : Int → Int → Option (Int)) : Nat → Int → Int → Option (Int)
 | 0, _, _ => none
 | n + 1, out5_b, t18_b => cond (decide (t18_b < (f0.2.1.length : Int))) (chk (decide (0 ≤ t18_b ∧ t18_b < (f0.2.1.length : Int))) ((a38 out5_b t18_b).bind fun r1 =>
   cond (r1) ((l72b a38 N f0 t13_a rec_l72a n (bOr .u16 out5_b (f0.2.1.getD t18_b.toNat (0 : Int))) (w64 (t18_b + (1 : Int)))))
   ((l72b a38 N f0 t13_a rec_l72a n out5_b (w64 (t18_b + (1 : Int)))))))
   ((rec_l72a out5_b (w64 (t13_a + (1 : Int)))))
theorem wl72b (a38 : Int → Int → Option (Bool)) (N : Nat) (f0 : (Int × Int × List (Int × Int × Int × Unit) × Unit) × List Int × Unit) (t13_a : Int) (T72_0 : TS → Option (Int)) (m : Nat) (out5_b : Int) (t18_b : Int) : R72_1 a38 N T72_0 (m + 1) (Sl72b f0 t13_a out5_b t18_b) = cond (decide (t18_b < (f0.2.1.length : Int))) (chk (decide (0 ≤ t18_b ∧ t18_b < (f0.2.1.length : Int))) ((a38 out5_b t18_b).bind fun r1 =>
   cond (r1) ((R72_1 a38 N T72_0 m (Sl72b f0 t13_a (bOr .u16 out5_b (f0.2.1.getD t18_b.toNat (0 : Int))) (w64 (t18_b + (1 : Int))))))
   ((R72_1 a38 N T72_0 m (Sl72b f0 t13_a out5_b (w64 (t18_b + (1 : Int))))))))
   ((T72_0 (Sl72a f0 out5_b (w64 (t13_a + (1 : Int)))))) := by kernel_rfl
theorem ql72b (a38 : Int → Int → Option (Bool)) (N : Nat) (f0 : (Int × Int × List (Int × Int × Int × Unit) × Unit) × List Int × Unit) (t13_a : Int) (T72_0 : TS → Option (Int)) : ∀ (m : Nat) (out5_b : Int) (t18_b : Int), R72_1 a38 N T72_0 m (Sl72b f0 t13_a out5_b t18_b) = l72b a38 N f0 t13_a (fun y0 y1 => T72_0 (Sl72a f0 y0 y1)) m out5_b t18_b
        | 0, _, _ => rfl
        | m + 1, out5_b, t18_b => by rw [wl72b]; simp only [l72b, ql72b a38 N f0 t13_a T72_0 m]
def l72a (a38 : Int → Int → Option (Bool)) (N : Nat) (f0 : (Int × Int × List (Int × Int × Int × Unit) × Unit) × List Int × Unit) : Nat → Int → Int → Option (Int)
 | 0, _, _ => none
 | n + 1, out5_a, t13_a => cond (decide (t13_a < (f0.2.1.length : Int))) ((l72b a38 N f0 t13_a (fun y0 y1 => (l72a a38 N f0 n y0 y1)) N out5_a (0 : Int)))
   (some out5_a)
theorem wl72a (a38 : Int → Int → Option (Bool)) (N : Nat) (f0 : (Int × Int × List (Int × Int × Int × Unit) × Unit) × List Int × Unit) (m : Nat) (out5_a : Int) (t13_a : Int) : R72_0 a38 N (m + 1) (Sl72a f0 out5_a t13_a) = cond (decide (t13_a < (f0.2.1.length : Int))) ((R72_1 a38 N (R72_0 a38 N m) N (Sl72b f0 t13_a out5_a (0 : Int))))
   (some out5_a) := by kernel_rfl
theorem ql72a (a38 : Int → Int → Option (Bool)) (N : Nat) (f0 : (Int × Int × List (Int × Int × Int × Unit) × Unit) × List Int × Unit) : ∀ (m : Nat) (out5_a : Int) (t13_a : Int), R72_0 a38 N m (Sl72a f0 out5_a t13_a) = l72a a38 N f0 m out5_a t13_a
        | 0, _, _ => rfl
        | m + 1, out5_a, t13_a => by rw [wl72a]; simp only [l72a, ql72b, ql72a a38 N f0 m]
def m72 (a38 : Int → Int → Option (Bool)) (N : Nat) (f0 : (Int × Int × List (Int × Int × Int × Unit) × Unit) × List Int × Unit) (i1 : Int) : Option (Int) :=
   chk (decide (0 ≤ i1)) ((l72a a38 N f0 N (IntKind.wrap .u16 ((1 : Int) * 2 ^ min (Int.toNat i1) 16)) (0 : Int)))
theorem wm72 (a38 : Int → Int → Option (Bool)) (N : Nat) (f0 : (Int × Int × List (Int × Int × Int × Unit) × Unit) × List Int × Unit) (i1 : Int) : callF (E72 a38) lv72 N en72 c72 (resOf Try.f72) 30 [.dv (.pair (.pair (.int .i64) (.pair (.int .i64) (.pair (.sl (.pair (.int .i64) (.pair (.int .i64) (.pair (.int .i64) (.unit))))) (.unit)))) (.pair (.sl (.int .u16)) (.unit))) f0, .dv (.int .i64) i1] [] dec72 = chk (decide (0 ≤ i1)) ((R72_0 a38 N N (Sl72a f0 (IntKind.wrap .u16 ((1 : Int) * 2 ^ min (Int.toNat i1) 16)) (0 : Int)))) := by kernel_rfl
theorem k72 (a38 : Int → Int → Option (Bool)) (N : Nat) (f0 : (Int × Int × List (Int × Int × Int × Unit) × Unit) × List Int × Unit) (i1 : Int) : callF (E72 a38) lv72 N en72 c72 (resOf Try.f72) 30 [.dv (.pair (.pair (.int .i64) (.pair (.int .i64) (.pair (.sl (.pair (.int .i64) (.pair (.int .i64) (.pair (.int .i64) (.unit))))) (.unit)))) (.pair (.sl (.int .u16)) (.unit))) f0, .dv (.int .i64) i1] [] dec72 = m72 a38 N f0 i1 := by rw [wm72]; simp only [m72, ql72a]
theorem ok72 (a38 : Int → Int → Option (Bool)) (h38 : FnOk Try.prog 38 (F38 a38)) (a : ((Int × Int × List (Int × Int × Int × Unit) × Unit) × List Int × Unit) → Int → Option (Int)) (h : ∀ f0 i1 r, a f0 i1 = some r → (∃ N, m72 a38 N f0 i1 = some r)) : FnOk Try.prog 72 (F72 a) := by
 intro args Of x hx
 simp only [F72] at hx
 split at hx
 ·rename_i f0 i1
  obtain ⟨N, hN⟩ := h _ _ _ hx
  refine lifted (L := [(38, F38 a38)]) (rc := nrc) (fz := nfz) (fn := Try.f72) (by kernel_rfl) (by kernel_rfl) (by kernel_rfl) (by kernel_rfl) rfl ?_ ((k72 a38 N _ _).trans hN) ?_
  ·intro p hp; simp only [List.mem_cons, List.not_mem_nil, or_false] at hp; rcases hp with rfl; exact h38
  ·intro l o hd
   simp only [dec72] at hd
   split at hd
   ·obtain rfl := Option.some.inj hd; exact ⟨rfl, rfl⟩
   ·cases hd
 ·cases hx
def E39 (a38 : Int → Int → Option (Bool)) (a72 : ((Int × Int × List (Int × Int × Int × Unit) × Unit) × List Int × Unit) → Int → Option (Int)) : Env := mkE TI TY [(38, F38 a38), (72, F72 a72)] nrc nfz
noncomputable def c39 : Code := bodyOf Try.f39
def nm39_0 : Norm := ⟨[1, 2, 5, 6, 13, 14], [2], [], []⟩
def lv39 : Nat → Option Norm := norms [(4, nm39_0)]
def en39 : End := ⟨[], ⟨[33], [], [], []⟩⟩
def dec39 (l : List TV) (o : List (Nat × TO)) : Option (Int) := match l, o with | [.dv (.int .u16) x0], [] => some (x0) | _, _ => none
def Sl39a (f0 : (Int × Int × List (Int × Int × Int × Unit) × Unit) × List Int × Unit) (i1 : Int) (r1 : Int) (out5_a : Int) (t14_a : Int) : TS := ⟨slots 33 [(1, .dv (.int .i64) i1), (2, .ptr 2 0 []), (5, .dv (.int .u16) out5_a), (6, .dv (.int .u16) r1), (13, .dv (.int .i64) (f0.2.1.length : Int)), (14, .dv (.int .i64) t14_a)], [(2, .row (.pair (.pair (.int .i64) (.pair (.int .i64) (.pair (.sl (.pair (.int .i64) (.pair (.int .i64) (.pair (.int .i64) (.unit))))) (.unit)))) (.pair (.sl (.int .u16)) (.unit))) ([f0] : List ((Int × Int × List (Int × Int × Int × Unit) × Unit) × List Int × Unit)))]⟩
noncomputable def K39_0 (a38 : Int → Int → Option (Bool)) (a72 : ((Int × Int × List (Int × Int × Int × Unit) × Unit) × List Int × Unit) → Int → Option (Int)) (N : Nat) : Kont (Int) := kont (E39 a38 a72) lv39 N c39 [1, 1, 1, 0, 1, 0] (fin TI en39 (resOf Try.f39) dec39)
noncomputable def R39_0 (a38 : Int → Int → Option (Bool)) (a72 : ((Int × Int × List (Int × Int × Int × Unit) × Unit) × List Int × Unit) → Int → Option (Int)) (N : Nat) (m : Nat) : TS → Option (Int) := loopK (den (E39 a38 a72) lv39 N (sub c39 [1, 1, 1, 0, 1, 0, 0])) (TS.norm nm39_0) (K39_0 a38 a72 N) m
def l39a (a38 : Int → Int → Option (Bool)) (a72 : ((Int × Int × List (Int × Int × Int × Unit) × Unit) × List Int × Unit) → Int → Option (Int)) (N : Nat) (f0 : (Int × Int × List (Int × Int × Int × Unit) × Unit) × List Int × Unit) (i1 : Int) (r1 : Int) : Nat → Int → Int → Option (Int)
 | 0, _, _ => none
 | n + 1, out5_a, t14_a => cond (decide (t14_a < (f0.2.1.length : Int))) ((a38 r1 t14_a).bind fun r2 =>
   cond (r2) ((a72 f0 t14_a).bind fun r3 =>
   (a38 r3 i1).bind fun r4 =>
   cond (r4) (chk (decide (0 ≤ t14_a)) ((l39a a38 a72 N f0 i1 r1 n (bOr .u16 out5_a (IntKind.wrap .u16 ((1 : Int) * 2 ^ min (Int.toNat t14_a) 16))) (w64 (t14_a + (1 : Int))))))
   ((l39a a38 a72 N f0 i1 r1 n out5_a (w64 (t14_a + (1 : Int))))))
   ((l39a a38 a72 N f0 i1 r1 n out5_a (w64 (t14_a + (1 : Int))))))
   (some out5_a)
theorem wl39a (a38 : Int → Int → Option (Bool)) (a72 : ((Int × Int × List (Int × Int × Int × Unit) × Unit) × List Int × Unit) → Int → Option (Int)) (N : Nat) (f0 : (Int × Int × List (Int × Int × Int × Unit) × Unit) × List Int × Unit) (i1 : Int) (r1 : Int) (m : Nat) (out5_a : Int) (t14_a : Int) : R39_0 a38 a72 N (m + 1) (Sl39a f0 i1 r1 out5_a t14_a) = cond (decide (t14_a < (f0.2.1.length : Int))) ((a38 r1 t14_a).bind fun r2 =>
   cond (r2) ((a72 f0 t14_a).bind fun r3 =>
   (a38 r3 i1).bind fun r4 =>
   cond (r4) (chk (decide (0 ≤ t14_a)) ((R39_0 a38 a72 N m (Sl39a f0 i1 r1 (bOr .u16 out5_a (IntKind.wrap .u16 ((1 : Int) * 2 ^ min (Int.toNat t14_a) 16))) (w64 (t14_a + (1 : Int)))))))
   ((R39_0 a38 a72 N m (Sl39a f0 i1 r1 out5_a (w64 (t14_a + (1 : Int)))))))
   ((R39_0 a38 a72 N m (Sl39a f0 i1 r1 out5_a (w64 (t14_a + (1 : Int)))))))
   (some out5_a) := by kernel_rfl
theorem ql39a (a38 : Int → Int → Option (Bool)) (a72 : ((Int × Int × List (Int × Int × Int × Unit) × Unit) × List Int × Unit) → Int → Option (Int)) (N : Nat) (f0 : (Int × Int × List (Int × Int × Int × Unit) × Unit) × List Int × Unit) (i1 : Int) (r1 : Int) : ∀ (m : Nat) (out5_a : Int) (t14_a : Int), R39_0 a38 a72 N m (Sl39a f0 i1 r1 out5_a t14_a) = l39a a38 a72 N f0 i1 r1 m out5_a t14_a
        | 0, _, _ => rfl
        | m + 1, out5_a, t14_a => by rw [wl39a]; simp only [l39a, ql39a a38 a72 N f0 i1 r1 m]
def m39 (a38 : Int → Int → Option (Bool)) (a72 : ((Int × Int × List (Int × Int × Int × Unit) × Unit) × List Int × Unit) → Int → Option (Int)) (N : Nat) (f0 : (Int × Int × List (Int × Int × Int × Unit) × Unit) × List Int × Unit) (i1 : Int) : Option (Int) :=
   (a72 f0 i1).bind fun r1 =>
   (l39a a38 a72 N f0 i1 r1 N (0 : Int) (0 : Int))
theorem wm39 (a38 : Int → Int → Option (Bool)) (a72 : ((Int × Int × List (Int × Int × Int × Unit) × Unit) × List Int × Unit) → Int → Option (Int)) (N : Nat) (f0 : (Int × Int × List (Int × Int × Int × Unit) × Unit) × List Int × Unit) (i1 : Int) : callF (E39 a38 a72) lv39 N en39 c39 (resOf Try.f39) 31 [.dv (.pair (.pair (.int .i64) (.pair (.int .i64) (.pair (.sl (.pair (.int .i64) (.pair (.int .i64) (.pair (.int .i64) (.unit))))) (.unit)))) (.pair (.sl (.int .u16)) (.unit))) f0, .dv (.int .i64) i1] [] dec39 = (a72 f0 i1).bind fun r1 =>
   (R39_0 a38 a72 N N (Sl39a f0 i1 r1 (0 : Int) (0 : Int))) := by kernel_rfl
theorem k39 (a38 : Int → Int → Option (Bool)) (a72 : ((Int × Int × List (Int × Int × Int × Unit) × Unit) × List Int × Unit) → Int → Option (Int)) (N : Nat) (f0 : (Int × Int × List (Int × Int × Int × Unit) × Unit) × List Int × Unit) (i1 : Int) : callF (E39 a38 a72) lv39 N en39 c39 (resOf Try.f39) 31 [.dv (.pair (.pair (.int .i64) (.pair (.int .i64) (.pair (.sl (.pair (.int .i64) (.pair (.int .i64) (.pair (.int .i64) (.unit))))) (.unit)))) (.pair (.sl (.int .u16)) (.unit))) f0, .dv (.int .i64) i1] [] dec39 = m39 a38 a72 N f0 i1 := by rw [wm39]; simp only [m39, ql39a]
theorem ok39 (a38 : Int → Int → Option (Bool)) (a72 : ((Int × Int × List (Int × Int × Int × Unit) × Unit) × List Int × Unit) → Int → Option (Int)) (h38 : FnOk Try.prog 38 (F38 a38)) (h72 : FnOk Try.prog 72 (F72 a72)) (a : ((Int × Int × List (Int × Int × Int × Unit) × Unit) × List Int × Unit) → Int → Option (Int)) (h : ∀ f0 i1 r, a f0 i1 = some r → (∃ N, m39 a38 a72 N f0 i1 = some r)) : FnOk Try.prog 39 (F39 a) := by
 intro args Of x hx
 simp only [F39] at hx
 split at hx
 ·rename_i f0 i1
  obtain ⟨N, hN⟩ := h _ _ _ hx
  refine lifted (L := [(38, F38 a38), (72, F72 a72)]) (rc := nrc) (fz := nfz) (fn := Try.f39) (by kernel_rfl) (by kernel_rfl) (by kernel_rfl) (by kernel_rfl) rfl ?_ ((k39 a38 a72 N _ _).trans hN) ?_
  ·intro p hp; simp only [List.mem_cons, List.not_mem_nil, or_false] at hp; rcases hp with rfl | rfl
   ·exact h38
   ·exact h72
  ·intro l o hd
   simp only [dec39] at hd
   split at hd
   ·obtain rfl := Option.some.inj hd; exact ⟨rfl, rfl⟩
   ·cases hd
 ·cases hx
def E66 : Env := mkE TI TY [] nrc nfz
noncomputable def c66 : Code := bodyOf Try.f66
def lv66 : Nat → Option Norm := norms []
def en66 : End := ⟨[], ⟨[12], [], [], []⟩⟩
def dec66 (l : List TV) (o : List (Nat × TO)) : Option (Int) := match l, o with | [.dv (.int .u16) x0], [] => some (x0) | _, _ => none
def m66 (N : Nat) (f0 : (Int × Int × List (Int × Int × Int × Unit) × Unit) × List Int × Unit) : Option (Int) :=
   chk (decide (0 ≤ w64 (f0.1.1 + f0.1.2.1))) (some (IntKind.wrap .u16 ((IntKind.wrap .u16 ((1 : Int) * 2 ^ min (Int.toNat (w64 (f0.1.1 + f0.1.2.1))) 16)) - (1 : Int))))
theorem k66 (N : Nat) (f0 : (Int × Int × List (Int × Int × Int × Unit) × Unit) × List Int × Unit) : callF (E66) lv66 N en66 c66 (resOf Try.f66) 11 [.dv (.pair (.pair (.int .i64) (.pair (.int .i64) (.pair (.sl (.pair (.int .i64) (.pair (.int .i64) (.pair (.int .i64) (.unit))))) (.unit)))) (.pair (.sl (.int .u16)) (.unit))) f0] [] dec66 = m66 N f0 := by kernel_rfl
theorem ok66 (a : ((Int × Int × List (Int × Int × Int × Unit) × Unit) × List Int × Unit) → Option (Int)) (h : ∀ f0 r, a f0 = some r → (∃ N, m66 N f0 = some r)) : FnOk Try.prog 66 (F66 a) := by
 intro args Of x hx
 simp only [F66] at hx
 split at hx
 ·rename_i f0
  obtain ⟨N, hN⟩ := h _ _ hx
  refine lifted (L := []) (rc := nrc) (fz := nfz) (fn := Try.f66) (by kernel_rfl) (by kernel_rfl) (by kernel_rfl) (by kernel_rfl) rfl ?_ ((k66 N _).trans hN) ?_
  ·intro p hp; cases hp
  ·intro l o hd
   simp only [dec66] at hd
   split at hd
   ·obtain rfl := Option.some.inj hd; exact ⟨rfl, rfl⟩
   ·cases hd
 ·cases hx
def E29 (a39 : ((Int × Int × List (Int × Int × Int × Unit) × Unit) × List Int × Unit) → Int → Option (Int)) (a66 : ((Int × Int × List (Int × Int × Int × Unit) × Unit) × List Int × Unit) → Option (Int)) : Env := mkE TI TY [(39, F39 a39), (66, F66 a66)] nrc nfz
noncomputable def c29 : Code := bodyOf Try.f29
def lv29 : Nat → Option Norm := norms []
def en29 : End := ⟨[], ⟨[8], [], [], []⟩⟩
def dec29 (l : List TV) (o : List (Nat × TO)) : Option (Bool) := match l, o with | [.dv (.bool) x0], [] => some (x0) | _, _ => none
def m29 (a39 : ((Int × Int × List (Int × Int × Int × Unit) × Unit) × List Int × Unit) → Int → Option (Int)) (a66 : ((Int × Int × List (Int × Int × Int × Unit) × Unit) × List Int × Unit) → Option (Int)) (N : Nat) (f0 : (Int × Int × List (Int × Int × Int × Unit) × Unit) × List Int × Unit) : Option (Bool) :=
   (a39 f0 (0 : Int)).bind fun r1 =>
   (a66 f0).bind fun r2 =>
   some (r1 == r2)
theorem k29 (a39 : ((Int × Int × List (Int × Int × Int × Unit) × Unit) × List Int × Unit) → Int → Option (Int)) (a66 : ((Int × Int × List (Int × Int × Int × Unit) × Unit) × List Int × Unit) → Option (Int)) (N : Nat) (f0 : (Int × Int × List (Int × Int × Int × Unit) × Unit) × List Int × Unit) : callF (E29 a39 a66) lv29 N en29 c29 (resOf Try.f29) 7 [.dv (.pair (.pair (.int .i64) (.pair (.int .i64) (.pair (.sl (.pair (.int .i64) (.pair (.int .i64) (.pair (.int .i64) (.unit))))) (.unit)))) (.pair (.sl (.int .u16)) (.unit))) f0] [] dec29 = m29 a39 a66 N f0 := by kernel_rfl
theorem ok29 (a39 : ((Int × Int × List (Int × Int × Int × Unit) × Unit) × List Int × Unit) → Int → Option (Int)) (a66 : ((Int × Int × List (Int × Int × Int × Unit) × Unit) × List Int × Unit) → Option (Int)) (h39 : FnOk Try.prog 39 (F39 a39)) (h66 : FnOk Try.prog 66 (F66 a66)) (a : ((Int × Int × List (Int × Int × Int × Unit) × Unit) × List Int × Unit) → Option (Bool)) (h : ∀ f0 r, a f0 = some r → (∃ N, m29 a39 a66 N f0 = some r)) : FnOk Try.prog 29 (F29 a) := by
 intro args Of x hx
 simp only [F29] at hx
 split at hx
 ·rename_i f0
  obtain ⟨N, hN⟩ := h _ _ hx
  refine lifted (L := [(39, F39 a39), (66, F66 a66)]) (rc := nrc) (fz := nfz) (fn := Try.f29) (by kernel_rfl) (by kernel_rfl) (by kernel_rfl) (by kernel_rfl) rfl ?_ ((k29 a39 a66 N _).trans hN) ?_
  ·intro p hp; simp only [List.mem_cons, List.not_mem_nil, or_false] at hp; rcases hp with rfl | rfl
   ·exact h39
   ·exact h66
  ·intro l o hd
   simp only [dec29] at hd
   split at hd
   ·obtain rfl := Option.some.inj hd; exact ⟨rfl, rfl⟩
   ·cases hd
 ·cases hx
def E10 (a27 : (Int × Int × List (Int × Int × Int × Unit) × Unit) → Option (Int)) (a28 : (Int × Int × List (Int × Int × Int × Unit) × Unit) → Int → Option ((Int × Int × List (Int × Int × Int × Unit) × Unit) × List Int × Unit)) (a29 : ((Int × Int × List (Int × Int × Int × Unit) × Unit) × List Int × Unit) → Option (Bool)) : Env := mkE TI TY [(27, F27 a27), (28, F28 a28), (29, F29 a29)] nrc nfz
noncomputable def c10 : Code := bodyOf Try.f10
def lv10 : Nat → Option Norm := norms []
def en10 : End := ⟨[], ⟨[13, 14], [], [], []⟩⟩
def dec10 (l : List TV) (o : List (Nat × TO)) : Option (Bool × Int) := match l, o with | [.dv (.bool) x0, .dv (.int .i64) x1], [] => some (x0, x1) | _, _ => none
def m10 (a27 : (Int × Int × List (Int × Int × Int × Unit) × Unit) → Option (Int)) (a28 : (Int × Int × List (Int × Int × Int × Unit) × Unit) → Int → Option ((Int × Int × List (Int × Int × Int × Unit) × Unit) × List Int × Unit)) (a29 : ((Int × Int × List (Int × Int × Int × Unit) × Unit) × List Int × Unit) → Option (Bool)) (N : Nat) (r0 : Int × Int × List (Int × Int × Int × Unit) × Unit) : Option (Bool × Int) :=
   (a27 r0).bind fun r1 =>
   cond (r1 != (0 : Int)) (some (false, r1))
   ((a28 r0 (-1 : Int)).bind fun r2 =>
   (a29 r2).bind fun r3 =>
   some (r3, (0 : Int)))
theorem k10 (a27 : (Int × Int × List (Int × Int × Int × Unit) × Unit) → Option (Int)) (a28 : (Int × Int × List (Int × Int × Int × Unit) × Unit) → Int → Option ((Int × Int × List (Int × Int × Int × Unit) × Unit) × List Int × Unit)) (a29 : ((Int × Int × List (Int × Int × Int × Unit) × Unit) × List Int × Unit) → Option (Bool)) (N : Nat) (r0 : Int × Int × List (Int × Int × Int × Unit) × Unit) : callF (E10 a27 a28 a29) lv10 N en10 c10 (resOf Try.f10) 12 [.dv (.pair (.int .i64) (.pair (.int .i64) (.pair (.sl (.pair (.int .i64) (.pair (.int .i64) (.pair (.int .i64) (.unit))))) (.unit)))) r0] [] dec10 = m10 a27 a28 a29 N r0 := by kernel_rfl
theorem ok10 (a27 : (Int × Int × List (Int × Int × Int × Unit) × Unit) → Option (Int)) (a28 : (Int × Int × List (Int × Int × Int × Unit) × Unit) → Int → Option ((Int × Int × List (Int × Int × Int × Unit) × Unit) × List Int × Unit)) (a29 : ((Int × Int × List (Int × Int × Int × Unit) × Unit) × List Int × Unit) → Option (Bool)) (h27 : FnOk Try.prog 27 (F27 a27)) (h28 : FnOk Try.prog 28 (F28 a28)) (h29 : FnOk Try.prog 29 (F29 a29)) (a : (Int × Int × List (Int × Int × Int × Unit) × Unit) → Option (Bool × Int)) (h : ∀ r0 r, a r0 = some r → (∃ N, m10 a27 a28 a29 N r0 = some r)) : FnOk Try.prog 10 (F10 a) := by
 intro args Of x hx
 simp only [F10] at hx
 split at hx
 ·rename_i r0
  obtain ⟨N, hN⟩ := h _ _ hx
  refine lifted (L := [(27, F27 a27), (28, F28 a28), (29, F29 a29)]) (rc := nrc) (fz := nfz) (fn := Try.f10) (by kernel_rfl) (by kernel_rfl) (by kernel_rfl) (by kernel_rfl) rfl ?_ ((k10 a27 a28 a29 N _).trans hN) ?_
  ·intro p hp; simp only [List.mem_cons, List.not_mem_nil, or_false] at hp; rcases hp with rfl | rfl | rfl
   ·exact h27
   ·exact h28
   ·exact h29
  ·intro l o hd
   simp only [dec10] at hd
   split at hd
   ·obtain rfl := Option.some.inj hd; exact ⟨rfl, rfl⟩
   ·cases hd
 ·cases hx
def E11 (a10 : (Int × Int × List (Int × Int × Int × Unit) × Unit) → Option (Bool × Int)) (a28 : (Int × Int × List (Int × Int × Int × Unit) × Unit) → Int → Option ((Int × Int × List (Int × Int × Int × Unit) × Unit) × List Int × Unit)) (a29 : ((Int × Int × List (Int × Int × Int × Unit) × Unit) × List Int × Unit) → Option (Bool)) : Env := mkE TI TY [(10, F10 a10), (28, F28 a28), (29, F29 a29)] nrc nfz
noncomputable def c11 : Code := bodyOf Try.f11
def nm11_0 : Norm := ⟨[1, 22, 23], [1], [(.slot 6, 1006, .int .i64)], []⟩
def lv11 : Nat → Option Norm := norms [(8, nm11_0)]
def en11 : End := ⟨[(37, .sl (.int .i64))], ⟨[37, 38], [], [], []⟩⟩
def dec11 (l : List TV) (o : List (Nat × TO)) : Option (List Int × Int) := match l, o with | [.dv (.sl (.int .i64)) x0, .dv (.int .i64) x1], [] => some (x0, x1) | _, _ => none
def Sl11a (r0 : Int × Int × List (Int × Int × Int × Unit) × Unit) (t23_a : Int) (out6_a : List Int) : TS := ⟨slots 37 [(1, .ptr 1 0 []), (6, .row 1006), (22, .dv (.int .i64) (r0.2.2.1.length : Int)), (23, .dv (.int .i64) t23_a)], [(1006, .row (.int .i64) out6_a), (1, .row (.pair (.int .i64) (.pair (.int .i64) (.pair (.sl (.pair (.int .i64) (.pair (.int .i64) (.pair (.int .i64) (.unit))))) (.unit)))) ([r0] : List (Int × Int × List (Int × Int × Int × Unit) × Unit)))]⟩
noncomputable def K11_0 (a10 : (Int × Int × List (Int × Int × Int × Unit) × Unit) → Option (Bool × Int)) (a28 : (Int × Int × List (Int × Int × Int × Unit) × Unit) → Int → Option ((Int × Int × List (Int × Int × Int × Unit) × Unit) × List Int × Unit)) (a29 : ((Int × Int × List (Int × Int × Int × Unit) × Unit) × List Int × Unit) → Option (Bool)) (N : Nat) : Kont (List Int × Int) := kont (E11 a10 a28 a29) lv11 N c11 [1, 1, 1, 1, 0, 1, 0] (fin TI en11 (resOf Try.f11) dec11)
noncomputable def R11_0 (a10 : (Int × Int × List (Int × Int × Int × Unit) × Unit) → Option (Bool × Int)) (a28 : (Int × Int × List (Int × Int × Int × Unit) × Unit) → Int → Option ((Int × Int × List (Int × Int × Int × Unit) × Unit) × List Int × Unit)) (a29 : ((Int × Int × List (Int × Int × Int × Unit) × Unit) × List Int × Unit) → Option (Bool)) (N : Nat) (m : Nat) : TS → Option (List Int × Int) := loopK (den (E11 a10 a28 a29) lv11 N (sub c11 [1, 1, 1, 1, 0, 1, 0, 0])) (TS.norm nm11_0) (K11_0 a10 a28 a29 N) m
def l11a (a10 : (Int × Int × List (Int × Int × Int × Unit) × Unit) → Option (Bool × Int)) (a28 : (Int × Int × List (Int × Int × Int × Unit) × Unit) → Int → Option ((Int × Int × List (Int × Int × Int × Unit) × Unit) × List Int × Unit)) (a29 : ((Int × Int × List (Int × Int × Int × Unit) × Unit) × List Int × Unit) → Option (Bool)) (N : Nat) (r0 : Int × Int × List (Int × Int × Int × Unit) × Unit) : Nat → Int → (List Int) → Option (List Int × Int)
 | 0, _, _ => none
 | n + 1, t23_a, out6_a => cond (decide (t23_a < (r0.2.2.1.length : Int))) ((a28 r0 t23_a).bind fun r2 =>
   (a29 r2).bind fun r3 =>
   cond (!r3) (chk (small (out6_a.length + 1) 8) ((l11a a10 a28 a29 N r0 n (w64 (t23_a + (1 : Int))) (out6_a ++ ([t23_a] : List Int)))))
   ((l11a a10 a28 a29 N r0 n (w64 (t23_a + (1 : Int))) out6_a)))
   (some (out6_a, (0 : Int)))
theorem wl11a (a10 : (Int × Int × List (Int × Int × Int × Unit) × Unit) → Option (Bool × Int)) (a28 : (Int × Int × List (Int × Int × Int × Unit) × Unit) → Int → Option ((Int × Int × List (Int × Int × Int × Unit) × Unit) × List Int × Unit)) (a29 : ((Int × Int × List (Int × Int × Int × Unit) × Unit) × List Int × Unit) → Option (Bool)) (N : Nat) (r0 : Int × Int × List (Int × Int × Int × Unit) × Unit) (m : Nat) (t23_a : Int) (out6_a : List Int) : R11_0 a10 a28 a29 N (m + 1) (Sl11a r0 t23_a out6_a) = cond (decide (t23_a < (r0.2.2.1.length : Int))) ((a28 r0 t23_a).bind fun r2 =>
   (a29 r2).bind fun r3 =>
   cond (!r3) (chk (small (out6_a.length + 1) 8) ((R11_0 a10 a28 a29 N m (Sl11a r0 (w64 (t23_a + (1 : Int))) (out6_a ++ ([t23_a] : List Int))))))
   ((R11_0 a10 a28 a29 N m (Sl11a r0 (w64 (t23_a + (1 : Int))) out6_a))))
   (some (out6_a, (0 : Int))) := by kernel_rfl
theorem ql11a (a10 : (Int × Int × List (Int × Int × Int × Unit) × Unit) → Option (Bool × Int)) (a28 : (Int × Int × List (Int × Int × Int × Unit) × Unit) → Int → Option ((Int × Int × List (Int × Int × Int × Unit) × Unit) × List Int × Unit)) (a29 : ((Int × Int × List (Int × Int × Int × Unit) × Unit) × List Int × Unit) → Option (Bool)) (N : Nat) (r0 : Int × Int × List (Int × Int × Int × Unit) × Unit) : ∀ (m : Nat) (t23_a : Int) (out6_a : List Int), R11_0 a10 a28 a29 N m (Sl11a r0 t23_a out6_a) = l11a a10 a28 a29 N r0 m t23_a out6_a
        | 0, _, _ => rfl
        | m + 1, t23_a, out6_a => by rw [wl11a]; simp only [l11a, ql11a a10 a28 a29 N r0 m]
def m11 (a10 : (Int × Int × List (Int × Int × Int × Unit) × Unit) → Option (Bool × Int)) (a28 : (Int × Int × List (Int × Int × Int × Unit) × Unit) → Int → Option ((Int × Int × List (Int × Int × Int × Unit) × Unit) × List Int × Unit)) (a29 : ((Int × Int × List (Int × Int × Int × Unit) × Unit) × List Int × Unit) → Option (Bool)) (N : Nat) (r0 : Int × Int × List (Int × Int × Int × Unit) × Unit) : Option (List Int × Int) :=
   (a10 r0).bind fun r1 =>
   cond (r1.2 != (0 : Int)) (some (([] : List Int), r1.2))
   (cond (!r1.1) (some (([] : List Int), (22 : Int)))
   ((l11a a10 a28 a29 N r0 N (0 : Int) ([] : List Int))))
theorem wm11 (a10 : (Int × Int × List (Int × Int × Int × Unit) × Unit) → Option (Bool × Int)) (a28 : (Int × Int × List (Int × Int × Int × Unit) × Unit) → Int → Option ((Int × Int × List (Int × Int × Int × Unit) × Unit) × List Int × Unit)) (a29 : ((Int × Int × List (Int × Int × Int × Unit) × Unit) × List Int × Unit) → Option (Bool)) (N : Nat) (r0 : Int × Int × List (Int × Int × Int × Unit) × Unit) : callF (E11 a10 a28 a29) lv11 N en11 c11 (resOf Try.f11) 36 [.dv (.pair (.int .i64) (.pair (.int .i64) (.pair (.sl (.pair (.int .i64) (.pair (.int .i64) (.pair (.int .i64) (.unit))))) (.unit)))) r0] [] dec11 = (a10 r0).bind fun r1 =>
   cond (r1.2 != (0 : Int)) (some (([] : List Int), r1.2))
   (cond (!r1.1) (some (([] : List Int), (22 : Int)))
   ((R11_0 a10 a28 a29 N N (Sl11a r0 (0 : Int) ([] : List Int))))) := by kernel_rfl
theorem k11 (a10 : (Int × Int × List (Int × Int × Int × Unit) × Unit) → Option (Bool × Int)) (a28 : (Int × Int × List (Int × Int × Int × Unit) × Unit) → Int → Option ((Int × Int × List (Int × Int × Int × Unit) × Unit) × List Int × Unit)) (a29 : ((Int × Int × List (Int × Int × Int × Unit) × Unit) × List Int × Unit) → Option (Bool)) (N : Nat) (r0 : Int × Int × List (Int × Int × Int × Unit) × Unit) : callF (E11 a10 a28 a29) lv11 N en11 c11 (resOf Try.f11) 36 [.dv (.pair (.int .i64) (.pair (.int .i64) (.pair (.sl (.pair (.int .i64) (.pair (.int .i64) (.pair (.int .i64) (.unit))))) (.unit)))) r0] [] dec11 = m11 a10 a28 a29 N r0 := by rw [wm11]; simp only [m11, ql11a]
theorem ok11 (a10 : (Int × Int × List (Int × Int × Int × Unit) × Unit) → Option (Bool × Int)) (a28 : (Int × Int × List (Int × Int × Int × Unit) × Unit) → Int → Option ((Int × Int × List (Int × Int × Int × Unit) × Unit) × List Int × Unit)) (a29 : ((Int × Int × List (Int × Int × Int × Unit) × Unit) × List Int × Unit) → Option (Bool)) (h10 : FnOk Try.prog 10 (F10 a10)) (h28 : FnOk Try.prog 28 (F28 a28)) (h29 : FnOk Try.prog 29 (F29 a29)) (a : (Int × Int × List (Int × Int × Int × Unit) × Unit) → Option (List Int × Int)) (h : ∀ r0 r, a r0 = some r → (∃ N, m11 a10 a28 a29 N r0 = some r)) : FnOk Try.prog 11 (F11 a) := by
 intro args Of x hx
 simp only [F11] at hx
 split at hx
 ·rename_i r0
  obtain ⟨N, hN⟩ := h _ _ hx
  refine lifted (L := [(10, F10 a10), (28, F28 a28), (29, F29 a29)]) (rc := nrc) (fz := nfz) (fn := Try.f11) (by kernel_rfl) (by kernel_rfl) (by kernel_rfl) (by kernel_rfl) rfl ?_ ((k11 a10 a28 a29 N _).trans hN) ?_
  ·intro p hp; simp only [List.mem_cons, List.not_mem_nil, or_false] at hp; rcases hp with rfl | rfl | rfl
   ·exact h10
   ·exact h28
   ·exact h29
  ·intro l o hd
   simp only [dec11] at hd
   split at hd
   ·obtain rfl := Option.some.inj hd; exact ⟨rfl, rfl⟩
   ·cases hd
 ·cases hx
def E6 : Env := mkE TI TY [] nrc nfz
noncomputable def c6 : Code := bodyOf Try.f6
def nm6_0 : Norm := ⟨[0, 1, 6, 7], [], [(.slot 5, 1005, .int .i64)], []⟩
def nm6_1 : Norm := ⟨[1, 8], [], [(.slot 5, 1005, .int .i64), (.slot 6, 1006, .int .i64)], []⟩
def lv6 : Nat → Option Norm := norms [(3, nm6_0), (7, nm6_1)]
def en6 : End := ⟨[(54, .sl (.int .i64))], ⟨[54], [], [], []⟩⟩
def dec6 (l : List TV) (o : List (Nat × TO)) : Option (List Int) := match l, o with | [.dv (.sl (.int .i64)) x0], [] => some (x0) | _, _ => none
def Sl6b (by1 : List Int) (k8_b : Int) (left5_b : List Int) (out6_b : List Int) : TS := ⟨slots 54 [(1, .dv (.sl (.int .u8)) by1), (5, .row 1005), (6, .row 1006), (8, .dv (.int .i64) k8_b)], [(1005, .row (.int .i64) left5_b), (1006, .row (.int .i64) out6_b)]⟩
def Sl6a (n0 : Int) (by1 : List Int) (i7_a : Int) (left5_a : List Int) : TS := ⟨slots 54 [(0, .dv (.int .i64) n0), (1, .dv (.sl (.int .u8)) by1), (5, .row 1005), (6, .nl), (7, .dv (.int .i64) i7_a)], [(1005, .row (.int .i64) left5_a)]⟩
noncomputable def K6_0 (N : Nat) : Kont (List Int) := kont (E6) lv6 N c6 [1, 1, 0, 1, 0] (fin TI en6 (resOf Try.f6) dec6)
noncomputable def R6_0 (N : Nat) (m : Nat) : TS → Option (List Int) := loopK (den (E6) lv6 N (sub c6 [1, 1, 0, 1, 0, 0])) (TS.norm nm6_0) (K6_0 N) m
noncomputable def K6_1 (N : Nat) : Kont (List Int) := kont (E6) lv6 N c6 [1, 1, 1, 0, 1, 0] (fin TI en6 (resOf Try.f6) dec6)
noncomputable def R6_1 (N : Nat) (m : Nat) : TS → Option (List Int) := loopK (den (E6) lv6 N (sub c6 [1, 1, 1, 0, 1, 0, 0])) (TS.norm nm6_1) (K6_1 N) m
def l6b (N : Nat) (by1 : List Int) : Nat → Int → (List Int) → (List Int) → Option (List Int)
 | 0, _, _, _ => none
 | n + 1, k8_b, left5_b, out6_b => cond (decide ((left5_b.length : Int) > (0 : Int))) (cond (decide (k8_b < (by1.length : Int))) (chk (decide (0 ≤ k8_b ∧ k8_b < (by1.length : Int))) (chk (decide ((left5_b.length : Int) ≠ (0 : Int))) (chk (decide (0 ≤ Int.tmod (w64 (by1.getD k8_b.toNat (0 : Int))) (left5_b.length : Int) ∧ Int.tmod (w64 (by1.getD k8_b.toNat (0 : Int))) (left5_b.length : Int) < (left5_b.length : Int))) (chk (small (out6_b.length + 1) 8) (chk (decide (0 ≤ Int.tmod (w64 (by1.getD k8_b.toNat (0 : Int))) (left5_b.length : Int) ∧ Int.tmod (w64 (by1.getD k8_b.toNat (0 : Int))) (left5_b.length : Int) ≤ (left5_b.length : Int))) (chk (small (0 + ((left5_b.take ((Int.tmod (w64 (by1.getD k8_b.toNat (0 : Int))) (left5_b.length : Int)).toNat)).drop 0).length) 8) (chk (decide (0 ≤ w64 ((Int.tmod (w64 (by1.getD k8_b.toNat (0 : Int))) (left5_b.length : Int)) + (1 : Int)) ∧ w64 ((Int.tmod (w64 (by1.getD k8_b.toNat (0 : Int))) (left5_b.length : Int)) + (1 : Int)) ≤ (left5_b.length : Int))) (chk (small ((([] : List Int) ++ ((left5_b.take ((Int.tmod (w64 (by1.getD k8_b.toNat (0 : Int))) (left5_b.length : Int)).toNat)).drop 0)).length + ((left5_b.take left5_b.length).drop ((w64 ((Int.tmod (w64 (by1.getD k8_b.toNat (0 : Int))) (left5_b.length : Int)) + (1 : Int))).toNat)).length) 8) ((l6b N by1 n (w64 (k8_b + (1 : Int))) ((([] : List Int) ++ ((left5_b.take ((Int.tmod (w64 (by1.getD k8_b.toNat (0 : Int))) (left5_b.length : Int)).toNat)).drop 0)) ++ ((left5_b.take left5_b.length).drop ((w64 ((Int.tmod (w64 (by1.getD k8_b.toNat (0 : Int))) (left5_b.length : Int)) + (1 : Int))).toNat))) (out6_b ++ ([left5_b.getD ((Int.tmod (w64 (by1.getD k8_b.toNat (0 : Int))) (left5_b.length : Int)).toNat) (0 : Int)] : List Int))))))))))))
   (chk (decide (0 ≤ (0 : Int) ∧ (0 : Int) < (left5_b.length : Int))) (chk (small (out6_b.length + 1) 8) (chk (decide (0 ≤ (0 : Int) ∧ (0 : Int) ≤ (left5_b.length : Int))) (chk (small (0 + ((left5_b.take 0).drop 0).length) 8) (chk (decide (0 ≤ (1 : Int) ∧ (1 : Int) ≤ (left5_b.length : Int))) (chk (small ((([] : List Int) ++ ((left5_b.take 0).drop 0)).length + ((left5_b.take left5_b.length).drop 1).length) 8) ((l6b N by1 n (w64 (k8_b + (1 : Int))) ((([] : List Int) ++ ((left5_b.take 0).drop 0)) ++ ((left5_b.take left5_b.length).drop 1)) (out6_b ++ ([left5_b.getD 0 (0 : Int)] : List Int)))))))))))
   (some out6_b)
theorem wl6b (N : Nat) (by1 : List Int) (m : Nat) (k8_b : Int) (left5_b : List Int) (out6_b : List Int) : R6_1 N (m + 1) (Sl6b by1 k8_b left5_b out6_b) = cond (decide ((left5_b.length : Int) > (0 : Int))) (cond (decide (k8_b < (by1.length : Int))) (chk (decide (0 ≤ k8_b ∧ k8_b < (by1.length : Int))) (chk (decide ((left5_b.length : Int) ≠ (0 : Int))) (chk (decide (0 ≤ Int.tmod (w64 (by1.getD k8_b.toNat (0 : Int))) (left5_b.length : Int) ∧ Int.tmod (w64 (by1.getD k8_b.toNat (0 : Int))) (left5_b.length : Int) < (left5_b.length : Int))) (chk (small (out6_b.length + 1) 8) (chk (decide (0 ≤ Int.tmod (w64 (by1.getD k8_b.toNat (0 : Int))) (left5_b.length : Int) ∧ Int.tmod (w64 (by1.getD k8_b.toNat (0 : Int))) (left5_b.length : Int) ≤ (left5_b.length : Int))) (chk (small (0 + ((left5_b.take ((Int.tmod (w64 (by1.getD k8_b.toNat (0 : Int))) (left5_b.length : Int)).toNat)).drop 0).length) 8) (chk (decide (0 ≤ w64 ((Int.tmod (w64 (by1.getD k8_b.toNat (0 : Int))) (left5_b.length : Int)) + (1 : Int)) ∧ w64 ((Int.tmod (w64 (by1.getD k8_b.toNat (0 : Int))) (left5_b.length : Int)) + (1 : Int)) ≤ (left5_b.length : Int))) (chk (small ((([] : List Int) ++ ((left5_b.take ((Int.tmod (w64 (by1.getD k8_b.toNat (0 : Int))) (left5_b.length : Int)).toNat)).drop 0)).length + ((left5_b.take left5_b.length).drop ((w64 ((Int.tmod (w64 (by1.getD k8_b.toNat (0 : Int))) (left5_b.length : Int)) + (1 : Int))).toNat)).length) 8) ((R6_1 N m (Sl6b by1 (w64 (k8_b + (1 : Int))) ((([] : List Int) ++ ((left5_b.take ((Int.tmod (w64 (by1.getD k8_b.toNat (0 : Int))) (left5_b.length : Int)).toNat)).drop 0)) ++ ((left5_b.take left5_b.length).drop ((w64 ((Int.tmod (w64 (by1.getD k8_b.toNat (0 : Int))) (left5_b.length : Int)) + (1 : Int))).toNat))) (out6_b ++ ([left5_b.getD ((Int.tmod (w64 (by1.getD k8_b.toNat (0 : Int))) (left5_b.length : Int)).toNat) (0 : Int)] : List Int)))))))))))))
   (chk (decide (0 ≤ (0 : Int) ∧ (0 : Int) < (left5_b.length : Int))) (chk (small (out6_b.length + 1) 8) (chk (decide (0 ≤ (0 : Int) ∧ (0 : Int) ≤ (left5_b.length : Int))) (chk (small (0 + ((left5_b.take 0).drop 0).length) 8) (chk (decide (0 ≤ (1 : Int) ∧ (1 : Int) ≤ (left5_b.length : Int))) (chk (small ((([] : List Int) ++ ((left5_b.take 0).drop 0)).length + ((left5_b.take left5_b.length).drop 1).length) 8) ((R6_1 N m (Sl6b by1 (w64 (k8_b + (1 : Int))) ((([] : List Int) ++ ((left5_b.take 0).drop 0)) ++ ((left5_b.take left5_b.length).drop 1)) (out6_b ++ ([left5_b.getD 0 (0 : Int)] : List Int))))))))))))
   (some out6_b) := by kernel_rfl
theorem ql6b (N : Nat) (by1 : List Int) : ∀ (m : Nat) (k8_b : Int) (left5_b : List Int) (out6_b : List Int), R6_1 N m (Sl6b by1 k8_b left5_b out6_b) = l6b N by1 m k8_b left5_b out6_b
        | 0, _, _, _ => rfl
        | m + 1, k8_b, left5_b, out6_b => by rw [wl6b]; simp only [l6b, ql6b N by1 m]
def l6a (N : Nat) (n0 : Int) (by1 : List Int) : Nat → Int → (List Int) → Option (List Int)
 | 0, _, _ => none
 | n + 1, i7_a, left5_a => cond (decide (i7_a < n0)) (chk (small (left5_a.length + 1) 8) ((l6a N n0 by1 n (w64 (i7_a + (1 : Int))) (left5_a ++ ([i7_a] : List Int)))))
   ((l6b N by1 N (0 : Int) left5_a ([] : List Int)))
theorem wl6a (N : Nat) (n0 : Int) (by1 : List Int) (m : Nat) (i7_a : Int) (left5_a : List Int) : R6_0 N (m + 1) (Sl6a n0 by1 i7_a left5_a) = cond (decide (i7_a < n0)) (chk (small (left5_a.length + 1) 8) ((R6_0 N m (Sl6a n0 by1 (w64 (i7_a + (1 : Int))) (left5_a ++ ([i7_a] : List Int))))))
   ((R6_1 N N (Sl6b by1 (0 : Int) left5_a ([] : List Int)))) := by kernel_rfl
theorem ql6a (N : Nat) (n0 : Int) (by1 : List Int) : ∀ (m : Nat) (i7_a : Int) (left5_a : List Int), R6_0 N m (Sl6a n0 by1 i7_a left5_a) = l6a N n0 by1 m i7_a left5_a
        | 0, _, _ => rfl
        | m + 1, i7_a, left5_a => by rw [wl6a]; simp only [l6a, ql6b, ql6a N n0 by1 m]
def m6 (N : Nat) (n0 : Int) (by1 : List Int) : Option (List Int) :=
   (l6a N n0 by1 N (0 : Int) ([] : List Int))
theorem wm6 (N : Nat) (n0 : Int) (by1 : List Int) : callF (E6) lv6 N en6 c6 (resOf Try.f6) 52 [.dv (.int .i64) n0, .dv (.sl (.int .u8)) by1] [] dec6 = (R6_0 N N (Sl6a n0 by1 (0 : Int) ([] : List Int))) := by kernel_rfl
theorem k6 (N : Nat) (n0 : Int) (by1 : List Int) : callF (E6) lv6 N en6 c6 (resOf Try.f6) 52 [.dv (.int .i64) n0, .dv (.sl (.int .u8)) by1] [] dec6 = m6 N n0 by1 := by rw [wm6]; simp only [m6, ql6a]
theorem ok6 (a : Int → (List Int) → Option (List Int)) (h : ∀ n0 by1 r, a n0 by1 = some r → (∃ N, m6 N n0 by1 = some r)) : FnOk Try.prog 6 (F6 a) := by
 intro args Of x hx
 simp only [F6] at hx
 split at hx
 ·rename_i n0 by1
  obtain ⟨N, hN⟩ := h _ _ _ hx
  refine lifted (L := []) (rc := nrc) (fz := nfz) (fn := Try.f6) (by kernel_rfl) (by kernel_rfl) (by kernel_rfl) (by kernel_rfl) rfl ?_ ((k6 N _ _).trans hN) ?_
  ·intro p hp; cases hp
  ·intro l o hd
   simp only [dec6] at hd
   split at hd
   ·obtain rfl := Option.some.inj hd; exact ⟨rfl, rfl⟩
   ·cases hd
 ·cases hx
def E26 : Env := mkE TI TY [] nrc nfz
noncomputable def c26 : Code := bodyOf Try.f26
def nm26_0 : Norm := ⟨[1, 8, 9, 10], [], [(.slot 5, 1005, .int .i64)], []⟩
def lv26 : Nat → Option Norm := norms [(3, nm26_0)]
def en26 : End := ⟨[(24, .sl (.int .i64))], ⟨[24], [], [], []⟩⟩
def dec26 (l : List TV) (o : List (Nat × TO)) : Option (List Int) := match l, o with | [.dv (.sl (.int .i64)) x0], [] => some (x0) | _, _ => none
def Sl26a (lx0 : List Int) (n1 : Int) (t10_a : Int) (out5_a : List Int) : TS := ⟨slots 24 [(1, .dv (.int .i64) n1), (5, .row 1005), (8, .dv (.sl (.int .i64)) lx0), (9, .dv (.int .i64) (lx0.length : Int)), (10, .dv (.int .i64) t10_a)], [(1005, .row (.int .i64) out5_a)]⟩
noncomputable def K26_0 (N : Nat) : Kont (List Int) := kont (E26) lv26 N c26 [1, 1, 0, 1, 0] (fin TI en26 (resOf Try.f26) dec26)
noncomputable def R26_0 (N : Nat) (m : Nat) : TS → Option (List Int) := loopK (den (E26) lv26 N (sub c26 [1, 1, 0, 1, 0, 0])) (TS.norm nm26_0) (K26_0 N) m
def l26a (N : Nat) (lx0 : List Int) (n1 : Int) : Nat → Int → (List Int) → Option (List Int)
 | 0, _, _ => none
 | n + 1, t10_a, out5_a => cond (decide (t10_a < (lx0.length : Int))) (chk (decide (0 ≤ t10_a ∧ t10_a < (lx0.length : Int))) (cond ((lx0.getD t10_a.toNat (0 : Int)) == n1) (chk (small (out5_a.length + 1) 8) ((l26a N lx0 n1 n (w64 (t10_a + (1 : Int))) (out5_a ++ ([t10_a] : List Int)))))
   ((l26a N lx0 n1 n (w64 (t10_a + (1 : Int))) out5_a))))
   (some out5_a)
theorem wl26a (N : Nat) (lx0 : List Int) (n1 : Int) (m : Nat) (t10_a : Int) (out5_a : List Int) : R26_0 N (m + 1) (Sl26a lx0 n1 t10_a out5_a) = cond (decide (t10_a < (lx0.length : Int))) (chk (decide (0 ≤ t10_a ∧ t10_a < (lx0.length : Int))) (cond ((lx0.getD t10_a.toNat (0 : Int)) == n1) (chk (small (out5_a.length + 1) 8) ((R26_0 N m (Sl26a lx0 n1 (w64 (t10_a + (1 : Int))) (out5_a ++ ([t10_a] : List Int))))))
   ((R26_0 N m (Sl26a lx0 n1 (w64 (t10_a + (1 : Int))) out5_a)))))
   (some out5_a) := by kernel_rfl
theorem ql26a (N : Nat) (lx0 : List Int) (n1 : Int) : ∀ (m : Nat) (t10_a : Int) (out5_a : List Int), R26_0 N m (Sl26a lx0 n1 t10_a out5_a) = l26a N lx0 n1 m t10_a out5_a
        | 0, _, _ => rfl
        | m + 1, t10_a, out5_a => by rw [wl26a]; simp only [l26a, ql26a N lx0 n1 m]
def m26 (N : Nat) (lx0 : List Int) (n1 : Int) : Option (List Int) :=
   (l26a N lx0 n1 N (0 : Int) ([] : List Int))
theorem wm26 (N : Nat) (lx0 : List Int) (n1 : Int) : callF (E26) lv26 N en26 c26 (resOf Try.f26) 22 [.dv (.sl (.int .i64)) lx0, .dv (.int .i64) n1] [] dec26 = (R26_0 N N (Sl26a lx0 n1 (0 : Int) ([] : List Int))) := by kernel_rfl
theorem k26 (N : Nat) (lx0 : List Int) (n1 : Int) : callF (E26) lv26 N en26 c26 (resOf Try.f26) 22 [.dv (.sl (.int .i64)) lx0, .dv (.int .i64) n1] [] dec26 = m26 N lx0 n1 := by rw [wm26]; simp only [m26, ql26a]
theorem ok26 (a : (List Int) → Int → Option (List Int)) (h : ∀ lx0 n1 r, a lx0 n1 = some r → (∃ N, m26 N lx0 n1 = some r)) : FnOk Try.prog 26 (F26 a) := by
 intro args Of x hx
 simp only [F26] at hx
 split at hx
 ·rename_i lx0 n1
  obtain ⟨N, hN⟩ := h _ _ _ hx
  refine lifted (L := []) (rc := nrc) (fz := nfz) (fn := Try.f26) (by kernel_rfl) (by kernel_rfl) (by kernel_rfl) (by kernel_rfl) rfl ?_ ((k26 N _ _).trans hN) ?_
  ·intro p hp; cases hp
  ·intro l o hd
   simp only [dec26] at hd
   split at hd
   ·obtain rfl := Option.some.inj hd; exact ⟨rfl, rfl⟩
   ·cases hd
 ·cases hx
def E8 (a25 : (List (List Int)) → Option (List Int × List Int)) (a26 : (List Int) → Int → Option (List Int)) (a7 : (List (List Int)) → Int → Option (Int × Int)) : Env := mkE TI TY [(25, F25 a25), (26, F26 a26), (7, F7 a7)] nrc nfz
noncomputable def c8 : Code := bodyOf Try.f8
def lv8 : Nat → Option Norm := norms []
def en8 : End := ⟨[(30, .sl (.int .i64)), (31, .sl (.int .i64))], ⟨[30, 31, 32], [], [], []⟩⟩
def dec8 (l : List TV) (o : List (Nat × TO)) : Option (List Int × List Int × Int) := match l, o with | [.dv (.sl (.int .i64)) x0, .dv (.sl (.int .i64)) x1, .dv (.int .i64) x2], [] => some (x0, x1, x2) | _, _ => none
def m8 (a25 : (List (List Int)) → Option (List Int × List Int)) (a26 : (List Int) → Int → Option (List Int)) (a7 : (List (List Int)) → Int → Option (Int × Int)) (N : Nat) (work0 : List (List Int)) (seats1 : Int) : Option (List Int × List Int × Int) :=
   (a7 work0 seats1).bind fun r1 =>
   cond (r1.2 != (0 : Int)) (some (([] : List Int), ([] : List Int), r1.2))
   ((a25 work0).bind fun r2 =>
   (a26 r2.1 r1.1).bind fun r3 =>
   (a26 r2.2 r1.1).bind fun r4 =>
   some (r3, r4, (0 : Int)))
theorem k8 (a25 : (List (List Int)) → Option (List Int × List Int)) (a26 : (List Int) → Int → Option (List Int)) (a7 : (List (List Int)) → Int → Option (Int × Int)) (N : Nat) (work0 : List (List Int)) (seats1 : Int) : callF (E8 a25 a26 a7) lv8 N en8 c8 (resOf Try.f8) 28 [.dv (.sl (.sl (.int .i64))) work0, .dv (.int .i64) seats1] [] dec8 = m8 a25 a26 a7 N work0 seats1 := by kernel_rfl
theorem ok8 (a25 : (List (List Int)) → Option (List Int × List Int)) (a26 : (List Int) → Int → Option (List Int)) (a7 : (List (List Int)) → Int → Option (Int × Int)) (h25 : FnOk Try.prog 25 (F25 a25)) (h26 : FnOk Try.prog 26 (F26 a26)) (h7 : FnOk Try.prog 7 (F7 a7)) (a : (List (List Int)) → Int → Option (List Int × List Int × Int)) (h : ∀ work0 seats1 r, a work0 seats1 = some r → (∃ N, m8 a25 a26 a7 N work0 seats1 = some r)) : FnOk Try.prog 8 (F8 a) := by
 intro args Of x hx
 simp only [F8] at hx
 split at hx
 ·rename_i work0 seats1
  obtain ⟨N, hN⟩ := h _ _ _ hx
  refine lifted (L := [(25, F25 a25), (26, F26 a26), (7, F7 a7)]) (rc := nrc) (fz := nfz) (fn := Try.f8) (by kernel_rfl) (by kernel_rfl) (by kernel_rfl) (by kernel_rfl) rfl ?_ ((k8 a25 a26 a7 N _ _).trans hN) ?_
  ·intro p hp; simp only [List.mem_cons, List.not_mem_nil, or_false] at hp; rcases hp with rfl | rfl | rfl
   ·exact h25
   ·exact h26
   ·exact h7
  ·intro l o hd
   simp only [dec8] at hd
   split at hd
   ·obtain rfl := Option.some.inj hd; exact ⟨rfl, rfl⟩
   ·cases hd
 ·cases hx
def E3 (a10 : (Int × Int × List (Int × Int × Int × Unit) × Unit) → Option (Bool × Int)) (a11 : (Int × Int × List (Int × Int × Int × Unit) × Unit) → Option (List Int × Int)) (a6 : Int → (List Int) → Option (List Int)) (a7 : (List (List Int)) → Int → Option (Int × Int)) (a8 : (List (List Int)) → Int → Option (List Int × List Int × Int)) (a9 : Option (Bool)) : Env := mkE TI TY [(10, F10 a10), (11, F11 a11), (6, F6 a6), (7, F7 a7), (8, F8 a8), (9, F9 a9)] (fun i => ([(17, [some (.int .i64), some (.int .i64), none]), (113, [some (.int .i64), some (.int .i64), none])] : List (Nat × List (Option DT))).lookup i) (fun i => ([29] : List Nat).contains i)
noncomputable def c3 : Code := bodyOf Try.f3
def nm3_0 : Norm := ⟨[1, 5, 6, 31, 32], [29], [], []⟩
def nm3_1 : Norm := ⟨[1, 5, 6, 8, 9], [29], [], []⟩
def nm3_2 : Norm := ⟨[1, 5, 6, 8, 9, 56, 57, 58], [29], [], []⟩
def nm3_3 : Norm := ⟨[17, 114, 115, 116], [17, 29], [(.fld 17 2, 2100, .pair (.int .i64) (.pair (.int .i64) (.pair (.int .i64) (.unit))))], []⟩
def nm3_4 : Norm := ⟨[17, 18, 114, 115, 116, 121, 122, 123], [17, 29], [(.fld 17 2, 2100, .pair (.int .i64) (.pair (.int .i64) (.pair (.int .i64) (.unit))))], []⟩
def lv3 : Nat → Option Norm := norms [(4, nm3_0), (10, nm3_1), (13, nm3_2), (24, nm3_3), (27, nm3_4)]
def en3 : End := ⟨[], ⟨[180], [], [], []⟩⟩
def dec3 (l : List TV) (o : List (Nat × TO)) : Option (Bool) := match l, o with | [.dv (.bool) x0], [] => some (x0) | _, _ => none
def Sl3c (side0 : Int) (orders1 : List (List Int)) (sum8_b : Int) (i9_b : Int) (r1 : List Int) (t58_c : Int) (o29_c : List (List Int)) : TS := ⟨slots 180 [(1, .dv (.sl (.arr 5 (.int .u8))) orders1), (5, .dv (.int .i64) (w64 ((2 : Int) + (Int.tmod (w64 (side0)) (4 : Int))))), (6, .row 29), (8, .dv (.int .i64) sum8_b), (9, .dv (.int .i64) i9_b), (56, .dv (.sl (.int .i64)) r1), (57, .dv (.int .i64) (r1.length : Int)), (58, .dv (.int .i64) t58_c)], [(29, .mat (.int .i64) o29_c none)]⟩
def Sl3e (side0 : Int) (o29_b : List (List Int)) (t116_d : Int) (t123_e : Int) (o2100_e : List (Int × Int × Int × Unit)) : TS := ⟨slots 180 [(17, .ptr 17 0 []), (18, .dv (.int .i64) t116_d), (114, .row 29), (115, .dv (.int .i64) (o29_b.length : Int)), (116, .dv (.int .i64) t116_d), (121, .dv (.sl (.int .i64)) (o29_b.getD t116_d.toNat ([] : List Int))), (122, .dv (.int .i64) ((o29_b.getD t116_d.toNat ([] : List Int)).length : Int)), (123, .dv (.int .i64) t123_e)], [(2100, .row (.pair (.int .i64) (.pair (.int .i64) (.pair (.int .i64) (.unit)))) o2100_e), (17, .rcd [.dv (.int .i64) (w64 ((2 : Int) + (Int.tmod (w64 (side0)) (4 : Int)))), .dv (.int .i64) (w64 ((2 : Int) + (Int.tmod (w64 (side0)) (4 : Int)))), .row 2100]), (29, .frz (.sl (.int .i64)) o29_b)]⟩
def Sl3d (side0 : Int) (o29_b : List (List Int)) (t116_d : Int) (o2100_d : List (Int × Int × Int × Unit)) : TS := ⟨slots 180 [(17, .ptr 17 0 []), (114, .row 29), (115, .dv (.int .i64) (o29_b.length : Int)), (116, .dv (.int .i64) t116_d)], [(2100, .row (.pair (.int .i64) (.pair (.int .i64) (.pair (.int .i64) (.unit)))) o2100_d), (17, .rcd [.dv (.int .i64) (w64 ((2 : Int) + (Int.tmod (w64 (side0)) (4 : Int)))), .dv (.int .i64) (w64 ((2 : Int) + (Int.tmod (w64 (side0)) (4 : Int)))), .row 2100]), (29, .frz (.sl (.int .i64)) o29_b)]⟩
def Sl3b (side0 : Int) (orders1 : List (List Int)) (sum8_b : Int) (i9_b : Int) (o29_b : List (List Int)) : TS := ⟨slots 180 [(1, .dv (.sl (.arr 5 (.int .u8))) orders1), (5, .dv (.int .i64) (w64 ((2 : Int) + (Int.tmod (w64 (side0)) (4 : Int))))), (6, .row 29), (8, .dv (.int .i64) sum8_b), (9, .dv (.int .i64) i9_b)], [(29, .mat (.int .i64) o29_b none)]⟩
def Sl3a (side0 : Int) (orders1 : List (List Int)) (t32_a : Int) (o29_a : List (List Int)) : TS := ⟨slots 180 [(1, .dv (.sl (.arr 5 (.int .u8))) orders1), (5, .dv (.int .i64) (w64 ((2 : Int) + (Int.tmod (w64 (side0)) (4 : Int))))), (6, .row 29), (31, .dv (.int .i64) ((List.replicate ((w64 ((2 : Int) + (Int.tmod (w64 (side0)) (4 : Int)))).toNat) ([] : List Int)).length : Int)), (32, .dv (.int .i64) t32_a)], [(29, .mat (.int .i64) o29_a none)]⟩
noncomputable def K3_0 (a10 : (Int × Int × List (Int × Int × Int × Unit) × Unit) → Option (Bool × Int)) (a11 : (Int × Int × List (Int × Int × Int × Unit) × Unit) → Option (List Int × Int)) (a6 : Int → (List Int) → Option (List Int)) (a7 : (List (List Int)) → Int → Option (Int × Int)) (a8 : (List (List Int)) → Int → Option (List Int × List Int × Int)) (a9 : Option (Bool)) (N : Nat) : Kont (Bool) := kont (E3 a10 a11 a6 a7 a8 a9) lv3 N c3 [1, 1, 1, 0, 1, 0] (fin TI en3 (resOf Try.f3) dec3)
noncomputable def R3_0 (a10 : (Int × Int × List (Int × Int × Int × Unit) × Unit) → Option (Bool × Int)) (a11 : (Int × Int × List (Int × Int × Int × Unit) × Unit) → Option (List Int × Int)) (a6 : Int → (List Int) → Option (List Int)) (a7 : (List (List Int)) → Int → Option (Int × Int)) (a8 : (List (List Int)) → Int → Option (List Int × List Int × Int)) (a9 : Option (Bool)) (N : Nat) (m : Nat) : TS → Option (Bool) := loopK (den (E3 a10 a11 a6 a7 a8 a9) lv3 N (sub c3 [1, 1, 1, 0, 1, 0, 0])) (TS.norm nm3_0) (K3_0 a10 a11 a6 a7 a8 a9 N) m
noncomputable def K3_1 (a10 : (Int × Int × List (Int × Int × Int × Unit) × Unit) → Option (Bool × Int)) (a11 : (Int × Int × List (Int × Int × Int × Unit) × Unit) → Option (List Int × Int)) (a6 : Int → (List Int) → Option (List Int)) (a7 : (List (List Int)) → Int → Option (Int × Int)) (a8 : (List (List Int)) → Int → Option (List Int × List Int × Int)) (a9 : Option (Bool)) (N : Nat) : Kont (Bool) := kont (E3 a10 a11 a6 a7 a8 a9) lv3 N c3 [1, 1, 1, 1, 1, 0, 1, 0] (fin TI en3 (resOf Try.f3) dec3)
noncomputable def R3_1 (a10 : (Int × Int × List (Int × Int × Int × Unit) × Unit) → Option (Bool × Int)) (a11 : (Int × Int × List (Int × Int × Int × Unit) × Unit) → Option (List Int × Int)) (a6 : Int → (List Int) → Option (List Int)) (a7 : (List (List Int)) → Int → Option (Int × Int)) (a8 : (List (List Int)) → Int → Option (List Int × List Int × Int)) (a9 : Option (Bool)) (N : Nat) (m : Nat) : TS → Option (Bool) := loopK (den (E3 a10 a11 a6 a7 a8 a9) lv3 N (sub c3 [1, 1, 1, 1, 1, 0, 1, 0, 0])) (TS.norm nm3_1) (K3_1 a10 a11 a6 a7 a8 a9 N) m
noncomputable def K3_2 (a10 : (Int × Int × List (Int × Int × Int × Unit) × Unit) → Option (Bool × Int)) (a11 : (Int × Int × List (Int × Int × Int × Unit) × Unit) → Option (List Int × Int)) (a6 : Int → (List Int) → Option (List Int)) (a7 : (List (List Int)) → Int → Option (Int × Int)) (a8 : (List (List Int)) → Int → Option (List Int × List Int × Int)) (a9 : Option (Bool)) (N : Nat) (T3_1 : TS → Option (Bool)) : Kont (Bool) := kont (E3 a10 a11 a6 a7 a8 a9) lv3 N (sub c3 [1, 1, 1, 1, 1, 0, 1, 0, 0]) [1, 0, 0, 0, 1, 0] (kloop (TS.norm nm3_1) (K3_1 a10 a11 a6 a7 a8 a9 N) T3_1)
noncomputable def R3_2 (a10 : (Int × Int × List (Int × Int × Int × Unit) × Unit) → Option (Bool × Int)) (a11 : (Int × Int × List (Int × Int × Int × Unit) × Unit) → Option (List Int × Int)) (a6 : Int → (List Int) → Option (List Int)) (a7 : (List (List Int)) → Int → Option (Int × Int)) (a8 : (List (List Int)) → Int → Option (List Int × List Int × Int)) (a9 : Option (Bool)) (N : Nat) (T3_1 : TS → Option (Bool)) (m : Nat) : TS → Option (Bool) := loopK (den (E3 a10 a11 a6 a7 a8 a9) lv3 N (sub c3 [1, 1, 1, 1, 1, 0, 1, 0, 0, 1, 0, 0, 0, 1, 0, 0])) (TS.norm nm3_2) (K3_2 a10 a11 a6 a7 a8 a9 N T3_1) m
noncomputable def K3_3 (a10 : (Int × Int × List (Int × Int × Int × Unit) × Unit) → Option (Bool × Int)) (a11 : (Int × Int × List (Int × Int × Int × Unit) × Unit) → Option (List Int × Int)) (a6 : Int → (List Int) → Option (List Int)) (a7 : (List (List Int)) → Int → Option (Int × Int)) (a8 : (List (List Int)) → Int → Option (List Int × List Int × Int)) (a9 : Option (Bool)) (N : Nat) : Kont (Bool) := kont (E3 a10 a11 a6 a7 a8 a9) lv3 N c3 [1, 1, 1, 1, 1, 1, 1, 1, 1, 1, 0, 1, 0] (fin TI en3 (resOf Try.f3) dec3)
noncomputable def R3_3 (a10 : (Int × Int × List (Int × Int × Int × Unit) × Unit) → Option (Bool × Int)) (a11 : (Int × Int × List (Int × Int × Int × Unit) × Unit) → Option (List Int × Int)) (a6 : Int → (List Int) → Option (List Int)) (a7 : (List (List Int)) → Int → Option (Int × Int)) (a8 : (List (List Int)) → Int → Option (List Int × List Int × Int)) (a9 : Option (Bool)) (N : Nat) (m : Nat) : TS → Option (Bool) := loopK (den (E3 a10 a11 a6 a7 a8 a9) lv3 N (sub c3 [1, 1, 1, 1, 1, 1, 1, 1, 1, 1, 0, 1, 0, 0])) (TS.norm nm3_3) (K3_3 a10 a11 a6 a7 a8 a9 N) m
noncomputable def K3_4 (a10 : (Int × Int × List (Int × Int × Int × Unit) × Unit) → Option (Bool × Int)) (a11 : (Int × Int × List (Int × Int × Int × Unit) × Unit) → Option (List Int × Int)) (a6 : Int → (List Int) → Option (List Int)) (a7 : (List (List Int)) → Int → Option (Int × Int)) (a8 : (List (List Int)) → Int → Option (List Int × List Int × Int)) (a9 : Option (Bool)) (N : Nat) (T3_3 : TS → Option (Bool)) : Kont (Bool) := kont (E3 a10 a11 a6 a7 a8 a9) lv3 N (sub c3 [1, 1, 1, 1, 1, 1, 1, 1, 1, 1, 0, 1, 0, 0]) [1, 1, 0, 0, 1, 1, 0] (kloop (TS.norm nm3_3) (K3_3 a10 a11 a6 a7 a8 a9 N) T3_3)
noncomputable def R3_4 (a10 : (Int × Int × List (Int × Int × Int × Unit) × Unit) → Option (Bool × Int)) (a11 : (Int × Int × List (Int × Int × Int × Unit) × Unit) → Option (List Int × Int)) (a6 : Int → (List Int) → Option (List Int)) (a7 : (List (List Int)) → Int → Option (Int × Int)) (a8 : (List (List Int)) → Int → Option (List Int × List Int × Int)) (a9 : Option (Bool)) (N : Nat) (T3_3 : TS → Option (Bool)) (m : Nat) : TS → Option (Bool) := loopK (den (E3 a10 a11 a6 a7 a8 a9) lv3 N (sub c3 [1, 1, 1, 1, 1, 1, 1, 1, 1, 1, 0, 1, 0, 0, 1, 1, 0, 0, 1, 1, 0, 0])) (TS.norm nm3_4) (K3_4 a10 a11 a6 a7 a8 a9 N T3_3) m
def l3c (a10 : (Int × Int × List (Int × Int × Int × Unit) × Unit) → Option (Bool × Int)) (a11 : (Int × Int × List (Int × Int × Int × Unit) × Unit) → Option (List Int × Int)) (a6 : Int → (List Int) → Option (List Int)) (a7 : (List (List Int)) → Int → Option (Int × Int)) (a8 : (List (List Int)) → Int → Option (List Int × List Int × Int)) (a9 : Option (Bool)) (N : Nat) (side0 : Int) (orders1 : List (List Int)) (sum8_b : Int) (i9_b : Int) (r1 : List Int) (rec_l3b : Int → Int → (List (List Int)) → Option (Bool)) : Nat → Int → (List (List Int)) → Option (Bool)
 | 0, _, _ => none
 | n + 1, t58_c, o29_c => cond (decide (t58_c < (r1.length : Int))) (chk (decide (0 ≤ t58_c ∧ t58_c < (r1.length : Int))) (chk (decide (0 ≤ t58_c ∧ t58_c < (o29_c.length : Int))) (chk (decide (0 ≤ r1.getD t58_c.toNat (0 : Int) ∧ r1.getD t58_c.toNat (0 : Int) < ((o29_c.getD t58_c.toNat ([] : List Int)).length : Int))) (chk (decide (0 ≤ r1.getD t58_c.toNat (0 : Int) ∧ r1.getD t58_c.toNat (0 : Int) < ((o29_c.getD t58_c.toNat ([] : List Int)).length : Int))) ((l3c a10 a11 a6 a7 a8 a9 N side0 orders1 sum8_b i9_b r1 rec_l3b n (w64 (t58_c + (1 : Int))) (o29_c.set t58_c.toNat ((o29_c.getD t58_c.toNat ([] : List Int)).set ((r1.getD t58_c.toNat (0 : Int)).toNat) (w64 (((o29_c.getD t58_c.toNat ([] : List Int)).getD ((r1.getD t58_c.toNat (0 : Int)).toNat) (0 : Int)) + (1 : Int)))))))))))
   ((rec_l3b (w64 (sum8_b + (1 : Int))) (w64 (i9_b + (1 : Int))) o29_c))
theorem wl3c (a10 : (Int × Int × List (Int × Int × Int × Unit) × Unit) → Option (Bool × Int)) (a11 : (Int × Int × List (Int × Int × Int × Unit) × Unit) → Option (List Int × Int)) (a6 : Int → (List Int) → Option (List Int)) (a7 : (List (List Int)) → Int → Option (Int × Int)) (a8 : (List (List Int)) → Int → Option (List Int × List Int × Int)) (a9 : Option (Bool)) (N : Nat) (side0 : Int) (orders1 : List (List Int)) (sum8_b : Int) (i9_b : Int) (r1 : List Int) (T3_1 : TS → Option (Bool)) (m : Nat) (t58_c : Int) (o29_c : List (List Int)) : R3_2 a10 a11 a6 a7 a8 a9 N T3_1 (m + 1) (Sl3c side0 orders1 sum8_b i9_b r1 t58_c o29_c) = cond (decide (t58_c < (r1.length : Int))) (chk (decide (0 ≤ t58_c ∧ t58_c < (r1.length : Int))) (chk (decide (0 ≤ t58_c ∧ t58_c < (o29_c.length : Int))) (chk (decide (0 ≤ r1.getD t58_c.toNat (0 : Int) ∧ r1.getD t58_c.toNat (0 : Int) < ((o29_c.getD t58_c.toNat ([] : List Int)).length : Int))) (chk (decide (0 ≤ r1.getD t58_c.toNat (0 : Int) ∧ r1.getD t58_c.toNat (0 : Int) < ((o29_c.getD t58_c.toNat ([] : List Int)).length : Int))) ((R3_2 a10 a11 a6 a7 a8 a9 N T3_1 m (Sl3c side0 orders1 sum8_b i9_b r1 (w64 (t58_c + (1 : Int))) (o29_c.set t58_c.toNat ((o29_c.getD t58_c.toNat ([] : List Int)).set ((r1.getD t58_c.toNat (0 : Int)).toNat) (w64 (((o29_c.getD t58_c.toNat ([] : List Int)).getD ((r1.getD t58_c.toNat (0 : Int)).toNat) (0 : Int)) + (1 : Int))))))))))))
   ((T3_1 (Sl3b side0 orders1 (w64 (sum8_b + (1 : Int))) (w64 (i9_b + (1 : Int))) o29_c))) := by kernel_rfl
theorem ql3c (a10 : (Int × Int × List (Int × Int × Int × Unit) × Unit) → Option (Bool × Int)) (a11 : (Int × Int × List (Int × Int × Int × Unit) × Unit) → Option (List Int × Int)) (a6 : Int → (List Int) → Option (List Int)) (a7 : (List (List Int)) → Int → Option (Int × Int)) (a8 : (List (List Int)) → Int → Option (List Int × List Int × Int)) (a9 : Option (Bool)) (N : Nat) (side0 : Int) (orders1 : List (List Int)) (sum8_b : Int) (i9_b : Int) (r1 : List Int) (T3_1 : TS → Option (Bool)) : ∀ (m : Nat) (t58_c : Int) (o29_c : List (List Int)), R3_2 a10 a11 a6 a7 a8 a9 N T3_1 m (Sl3c side0 orders1 sum8_b i9_b r1 t58_c o29_c) = l3c a10 a11 a6 a7 a8 a9 N side0 orders1 sum8_b i9_b r1 (fun y0 y1 y2 => T3_1 (Sl3b side0 orders1 y0 y1 y2)) m t58_c o29_c
        | 0, _, _ => rfl
        | m + 1, t58_c, o29_c => by rw [wl3c]; simp only [l3c, ql3c a10 a11 a6 a7 a8 a9 N side0 orders1 sum8_b i9_b r1 T3_1 m]
def l3e (a10 : (Int × Int × List (Int × Int × Int × Unit) × Unit) → Option (Bool × Int)) (a11 : (Int × Int × List (Int × Int × Int × Unit) × Unit) → Option (List Int × Int)) (a6 : Int → (List Int) → Option (List Int)) (a7 : (List (List Int)) → Int → Option (Int × Int)) (a8 : (List (List Int)) → Int → Option (List Int × List Int × Int)) (a9 : Option (Bool)) (N : Nat) (side0 : Int) (o29_b : List (List Int)) (t116_d : Int) (rec_l3d : Int → (List (Int × Int × Int × Unit)) → Option (Bool)) : Nat → Int → (List (Int × Int × Int × Unit)) → Option (Bool)
 | 0, _, _ => none
 | n + 1, t123_e, o2100_e => cond (decide (t123_e < ((o29_b.getD t116_d.toNat ([] : List Int)).length : Int))) (chk (decide (0 ≤ t123_e ∧ t123_e < ((o29_b.getD t116_d.toNat ([] : List Int)).length : Int))) (cond (decide (((o29_b.getD t116_d.toNat ([] : List Int)).getD t123_e.toNat (0 : Int)) > (0 : Int))) (cond (decide ((o2100_e.length : Int) < (24 : Int))) (chk (small (o2100_e.length + 1) 24) ((l3e a10 a11 a6 a7 a8 a9 N side0 o29_b t116_d rec_l3d n (w64 (t123_e + (1 : Int))) (o2100_e ++ ([(t116_d, (t123_e, ((0 : Int), ())))] : List (Int × Int × Int × Unit))))))
   ((l3e a10 a11 a6 a7 a8 a9 N side0 o29_b t116_d rec_l3d n (w64 (t123_e + (1 : Int))) o2100_e)))
   ((l3e a10 a11 a6 a7 a8 a9 N side0 o29_b t116_d rec_l3d n (w64 (t123_e + (1 : Int))) o2100_e))))
   ((rec_l3d (w64 (t116_d + (1 : Int))) o2100_e))
theorem wl3e (a10 : (Int × Int × List (Int × Int × Int × Unit) × Unit) → Option (Bool × Int)) (a11 : (Int × Int × List (Int × Int × Int × Unit) × Unit) → Option (List Int × Int)) (a6 : Int → (List Int) → Option (List Int)) (a7 : (List (List Int)) → Int → Option (Int × Int)) (a8 : (List (List Int)) → Int → Option (List Int × List Int × Int)) (a9 : Option (Bool)) (N : Nat) (side0 : Int) (o29_b : List (List Int)) (t116_d : Int) (T3_3 : TS → Option (Bool)) (m : Nat) (t123_e : Int) (o2100_e : List (Int × Int × Int × Unit)) : R3_4 a10 a11 a6 a7 a8 a9 N T3_3 (m + 1) (Sl3e side0 o29_b t116_d t123_e o2100_e) = cond (decide (t123_e < ((o29_b.getD t116_d.toNat ([] : List Int)).length : Int))) (chk (decide (0 ≤ t123_e ∧ t123_e < ((o29_b.getD t116_d.toNat ([] : List Int)).length : Int))) (cond (decide (((o29_b.getD t116_d.toNat ([] : List Int)).getD t123_e.toNat (0 : Int)) > (0 : Int))) (cond (decide ((o2100_e.length : Int) < (24 : Int))) (chk (small (o2100_e.length + 1) 24) ((R3_4 a10 a11 a6 a7 a8 a9 N T3_3 m (Sl3e side0 o29_b t116_d (w64 (t123_e + (1 : Int))) (o2100_e ++ ([(t116_d, (t123_e, ((0 : Int), ())))] : List (Int × Int × Int × Unit)))))))
   ((R3_4 a10 a11 a6 a7 a8 a9 N T3_3 m (Sl3e side0 o29_b t116_d (w64 (t123_e + (1 : Int))) o2100_e))))
   ((R3_4 a10 a11 a6 a7 a8 a9 N T3_3 m (Sl3e side0 o29_b t116_d (w64 (t123_e + (1 : Int))) o2100_e)))))
   ((T3_3 (Sl3d side0 o29_b (w64 (t116_d + (1 : Int))) o2100_e))) := by kernel_rfl
theorem ql3e (a10 : (Int × Int × List (Int × Int × Int × Unit) × Unit) → Option (Bool × Int)) (a11 : (Int × Int × List (Int × Int × Int × Unit) × Unit) → Option (List Int × Int)) (a6 : Int → (List Int) → Option (List Int)) (a7 : (List (List Int)) → Int → Option (Int × Int)) (a8 : (List (List Int)) → Int → Option (List Int × List Int × Int)) (a9 : Option (Bool)) (N : Nat) (side0 : Int) (o29_b : List (List Int)) (t116_d : Int) (T3_3 : TS → Option (Bool)) : ∀ (m : Nat) (t123_e : Int) (o2100_e : List (Int × Int × Int × Unit)), R3_4 a10 a11 a6 a7 a8 a9 N T3_3 m (Sl3e side0 o29_b t116_d t123_e o2100_e) = l3e a10 a11 a6 a7 a8 a9 N side0 o29_b t116_d (fun y0 y1 => T3_3 (Sl3d side0 o29_b y0 y1)) m t123_e o2100_e
        | 0, _, _ => rfl
        | m + 1, t123_e, o2100_e => by rw [wl3e]; simp only [l3e, ql3e a10 a11 a6 a7 a8 a9 N side0 o29_b t116_d T3_3 m]
def l3d (a10 : (Int × Int × List (Int × Int × Int × Unit) × Unit) → Option (Bool × Int)) (a11 : (Int × Int × List (Int × Int × Int × Unit) × Unit) → Option (List Int × Int)) (a6 : Int → (List Int) → Option (List Int)) (a7 : (List (List Int)) → Int → Option (Int × Int)) (a8 : (List (List Int)) → Int → Option (List Int × List Int × Int)) (a9 : Option (Bool)) (N : Nat) (side0 : Int) (o29_b : List (List Int)) : Nat → Int → (List (Int × Int × Int × Unit)) → Option (Bool)
 | 0, _, _ => none
 | n + 1, t116_d, o2100_d => cond (decide (t116_d < (o29_b.length : Int))) (chk (decide (0 ≤ t116_d ∧ t116_d < (o29_b.length : Int))) ((l3e a10 a11 a6 a7 a8 a9 N side0 o29_b t116_d (fun y0 y1 => (l3d a10 a11 a6 a7 a8 a9 N side0 o29_b n y0 y1)) N (0 : Int) o2100_d)))
   (cond ((o2100_d.length : Int) == (24 : Int)) ((a9).bind fun r4 =>
   some r4)
   ((a10 (w64 ((2 : Int) + (Int.tmod (w64 (side0)) (4 : Int))), (w64 ((2 : Int) + (Int.tmod (w64 (side0)) (4 : Int))), (o2100_d, ())))).bind fun r5 =>
   (a11 (w64 ((2 : Int) + (Int.tmod (w64 (side0)) (4 : Int))), (w64 ((2 : Int) + (Int.tmod (w64 (side0)) (4 : Int))), (o2100_d, ())))).bind fun r6 =>
   cond (r5.2 != (0 : Int)) (some false)
   (cond (!r5.1) (cond (r6.2 == (22 : Int)) ((a9).bind fun r7 =>
   some r7)
   (some false))
   (cond (r6.2 == (0 : Int)) (cond ((r6.1.length : Int) == (0 : Int)) ((a9).bind fun r8 =>
   some r8)
   (some false))
   (some false)))))
theorem wl3d (a10 : (Int × Int × List (Int × Int × Int × Unit) × Unit) → Option (Bool × Int)) (a11 : (Int × Int × List (Int × Int × Int × Unit) × Unit) → Option (List Int × Int)) (a6 : Int → (List Int) → Option (List Int)) (a7 : (List (List Int)) → Int → Option (Int × Int)) (a8 : (List (List Int)) → Int → Option (List Int × List Int × Int)) (a9 : Option (Bool)) (N : Nat) (side0 : Int) (o29_b : List (List Int)) (m : Nat) (t116_d : Int) (o2100_d : List (Int × Int × Int × Unit)) : R3_3 a10 a11 a6 a7 a8 a9 N (m + 1) (Sl3d side0 o29_b t116_d o2100_d) = cond (decide (t116_d < (o29_b.length : Int))) (chk (decide (0 ≤ t116_d ∧ t116_d < (o29_b.length : Int))) ((R3_4 a10 a11 a6 a7 a8 a9 N (R3_3 a10 a11 a6 a7 a8 a9 N m) N (Sl3e side0 o29_b t116_d (0 : Int) o2100_d))))
   (cond ((o2100_d.length : Int) == (24 : Int)) ((a9).bind fun r4 =>
   some r4)
   ((a10 (w64 ((2 : Int) + (Int.tmod (w64 (side0)) (4 : Int))), (w64 ((2 : Int) + (Int.tmod (w64 (side0)) (4 : Int))), (o2100_d, ())))).bind fun r5 =>
   (a11 (w64 ((2 : Int) + (Int.tmod (w64 (side0)) (4 : Int))), (w64 ((2 : Int) + (Int.tmod (w64 (side0)) (4 : Int))), (o2100_d, ())))).bind fun r6 =>
   cond (r5.2 != (0 : Int)) (some false)
   (cond (!r5.1) (cond (r6.2 == (22 : Int)) ((a9).bind fun r7 =>
   some r7)
   (some false))
   (cond (r6.2 == (0 : Int)) (cond ((r6.1.length : Int) == (0 : Int)) ((a9).bind fun r8 =>
   some r8)
   (some false))
   (some false))))) := by kernel_rfl
theorem ql3d (a10 : (Int × Int × List (Int × Int × Int × Unit) × Unit) → Option (Bool × Int)) (a11 : (Int × Int × List (Int × Int × Int × Unit) × Unit) → Option (List Int × Int)) (a6 : Int → (List Int) → Option (List Int)) (a7 : (List (List Int)) → Int → Option (Int × Int)) (a8 : (List (List Int)) → Int → Option (List Int × List Int × Int)) (a9 : Option (Bool)) (N : Nat) (side0 : Int) (o29_b : List (List Int)) : ∀ (m : Nat) (t116_d : Int) (o2100_d : List (Int × Int × Int × Unit)), R3_3 a10 a11 a6 a7 a8 a9 N m (Sl3d side0 o29_b t116_d o2100_d) = l3d a10 a11 a6 a7 a8 a9 N side0 o29_b m t116_d o2100_d
        | 0, _, _ => rfl
        | m + 1, t116_d, o2100_d => by rw [wl3d]; simp only [l3d, ql3e, ql3d a10 a11 a6 a7 a8 a9 N side0 o29_b m]
def l3b (a10 : (Int × Int × List (Int × Int × Int × Unit) × Unit) → Option (Bool × Int)) (a11 : (Int × Int × List (Int × Int × Int × Unit) × Unit) → Option (List Int × Int)) (a6 : Int → (List Int) → Option (List Int)) (a7 : (List (List Int)) → Int → Option (Int × Int)) (a8 : (List (List Int)) → Int → Option (List Int × List Int × Int)) (a9 : Option (Bool)) (N : Nat) (side0 : Int) (orders1 : List (List Int)) : Nat → Int → Int → (List (List Int)) → Option (Bool)
 | 0, _, _, _ => none
 | n + 1, sum8_b, i9_b, o29_b => cond (decide (i9_b < (orders1.length : Int))) (cond (decide (i9_b < (8 : Int))) (chk (decide (0 ≤ i9_b ∧ i9_b < (orders1.length : Int))) (chk (decide ((orders1.getD i9_b.toNat ([(0 : Int), (0 : Int), (0 : Int), (0 : Int), (0 : Int)] : List Int)).length = 5) && true && true) ((a6 (w64 ((2 : Int) + (Int.tmod (w64 (side0)) (4 : Int)))) (orders1.getD i9_b.toNat ([(0 : Int), (0 : Int), (0 : Int), (0 : Int), (0 : Int)] : List Int))).bind fun r1 =>
   (l3c a10 a11 a6 a7 a8 a9 N side0 orders1 sum8_b i9_b r1 (fun y0 y1 y2 => (l3b a10 a11 a6 a7 a8 a9 N side0 orders1 n y0 y1 y2)) N (0 : Int) o29_b))))
   ((a7 o29_b (w64 ((2 : Int) + (Int.tmod (w64 (side0)) (4 : Int))))).bind fun r2 =>
   (a8 o29_b (w64 ((2 : Int) + (Int.tmod (w64 (side0)) (4 : Int))))).bind fun r3 =>
   cond (r2.2 != (0 : Int)) (some false)
   (cond (r3.2.2 != (0 : Int)) (some false)
   (cond (r2.1 != sum8_b) (some false)
   (cond ((r3.1.length : Int) != (w64 ((2 : Int) + (Int.tmod (w64 (side0)) (4 : Int))))) (some false)
   (cond ((r3.2.1.length : Int) != (w64 ((2 : Int) + (Int.tmod (w64 (side0)) (4 : Int))))) (some false)
   ((l3d a10 a11 a6 a7 a8 a9 N side0 o29_b N (0 : Int) ([] : List (Int × Int × Int × Unit))))))))))
   ((a7 o29_b (w64 ((2 : Int) + (Int.tmod (w64 (side0)) (4 : Int))))).bind fun r9 =>
   (a8 o29_b (w64 ((2 : Int) + (Int.tmod (w64 (side0)) (4 : Int))))).bind fun r10 =>
   cond (r9.2 != (0 : Int)) (some false)
   (cond (r10.2.2 != (0 : Int)) (some false)
   (cond (r9.1 != sum8_b) (some false)
   (cond ((r10.1.length : Int) != (w64 ((2 : Int) + (Int.tmod (w64 (side0)) (4 : Int))))) (some false)
   (cond ((r10.2.1.length : Int) != (w64 ((2 : Int) + (Int.tmod (w64 (side0)) (4 : Int))))) (some false)
   ((l3d a10 a11 a6 a7 a8 a9 N side0 o29_b N (0 : Int) ([] : List (Int × Int × Int × Unit)))))))))
theorem wl3b (a10 : (Int × Int × List (Int × Int × Int × Unit) × Unit) → Option (Bool × Int)) (a11 : (Int × Int × List (Int × Int × Int × Unit) × Unit) → Option (List Int × Int)) (a6 : Int → (List Int) → Option (List Int)) (a7 : (List (List Int)) → Int → Option (Int × Int)) (a8 : (List (List Int)) → Int → Option (List Int × List Int × Int)) (a9 : Option (Bool)) (N : Nat) (side0 : Int) (orders1 : List (List Int)) (m : Nat) (sum8_b : Int) (i9_b : Int) (o29_b : List (List Int)) : R3_1 a10 a11 a6 a7 a8 a9 N (m + 1) (Sl3b side0 orders1 sum8_b i9_b o29_b) = cond (decide (i9_b < (orders1.length : Int))) (cond (decide (i9_b < (8 : Int))) (chk (decide (0 ≤ i9_b ∧ i9_b < (orders1.length : Int))) (chk (decide ((orders1.getD i9_b.toNat ([(0 : Int), (0 : Int), (0 : Int), (0 : Int), (0 : Int)] : List Int)).length = 5) && true && true) ((a6 (w64 ((2 : Int) + (Int.tmod (w64 (side0)) (4 : Int)))) (orders1.getD i9_b.toNat ([(0 : Int), (0 : Int), (0 : Int), (0 : Int), (0 : Int)] : List Int))).bind fun r1 =>
   (R3_2 a10 a11 a6 a7 a8 a9 N (R3_1 a10 a11 a6 a7 a8 a9 N m) N (Sl3c side0 orders1 sum8_b i9_b r1 (0 : Int) o29_b)))))
   ((a7 o29_b (w64 ((2 : Int) + (Int.tmod (w64 (side0)) (4 : Int))))).bind fun r2 =>
   (a8 o29_b (w64 ((2 : Int) + (Int.tmod (w64 (side0)) (4 : Int))))).bind fun r3 =>
   cond (r2.2 != (0 : Int)) (some false)
   (cond (r3.2.2 != (0 : Int)) (some false)
   (cond (r2.1 != sum8_b) (some false)
   (cond ((r3.1.length : Int) != (w64 ((2 : Int) + (Int.tmod (w64 (side0)) (4 : Int))))) (some false)
   (cond ((r3.2.1.length : Int) != (w64 ((2 : Int) + (Int.tmod (w64 (side0)) (4 : Int))))) (some false)
   ((R3_3 a10 a11 a6 a7 a8 a9 N N (Sl3d side0 o29_b (0 : Int) ([] : List (Int × Int × Int × Unit)))))))))))
   ((a7 o29_b (w64 ((2 : Int) + (Int.tmod (w64 (side0)) (4 : Int))))).bind fun r9 =>
   (a8 o29_b (w64 ((2 : Int) + (Int.tmod (w64 (side0)) (4 : Int))))).bind fun r10 =>
   cond (r9.2 != (0 : Int)) (some false)
   (cond (r10.2.2 != (0 : Int)) (some false)
   (cond (r9.1 != sum8_b) (some false)
   (cond ((r10.1.length : Int) != (w64 ((2 : Int) + (Int.tmod (w64 (side0)) (4 : Int))))) (some false)
   (cond ((r10.2.1.length : Int) != (w64 ((2 : Int) + (Int.tmod (w64 (side0)) (4 : Int))))) (some false)
   ((R3_3 a10 a11 a6 a7 a8 a9 N N (Sl3d side0 o29_b (0 : Int) ([] : List (Int × Int × Int × Unit)))))))))) := by kernel_rfl
theorem ql3b (a10 : (Int × Int × List (Int × Int × Int × Unit) × Unit) → Option (Bool × Int)) (a11 : (Int × Int × List (Int × Int × Int × Unit) × Unit) → Option (List Int × Int)) (a6 : Int → (List Int) → Option (List Int)) (a7 : (List (List Int)) → Int → Option (Int × Int)) (a8 : (List (List Int)) → Int → Option (List Int × List Int × Int)) (a9 : Option (Bool)) (N : Nat) (side0 : Int) (orders1 : List (List Int)) : ∀ (m : Nat) (sum8_b : Int) (i9_b : Int) (o29_b : List (List Int)), R3_1 a10 a11 a6 a7 a8 a9 N m (Sl3b side0 orders1 sum8_b i9_b o29_b) = l3b a10 a11 a6 a7 a8 a9 N side0 orders1 m sum8_b i9_b o29_b
        | 0, _, _, _ => rfl
        | m + 1, sum8_b, i9_b, o29_b => by rw [wl3b]; simp only [l3b, ql3c, ql3d, ql3b a10 a11 a6 a7 a8 a9 N side0 orders1 m]
def l3a (a10 : (Int × Int × List (Int × Int × Int × Unit) × Unit) → Option (Bool × Int)) (a11 : (Int × Int × List (Int × Int × Int × Unit) × Unit) → Option (List Int × Int)) (a6 : Int → (List Int) → Option (List Int)) (a7 : (List (List Int)) → Int → Option (Int × Int)) (a8 : (List (List Int)) → Int → Option (List Int × List Int × Int)) (a9 : Option (Bool)) (N : Nat) (side0 : Int) (orders1 : List (List Int)) : Nat → Int → (List (List Int)) → Option (Bool)
 | 0, _, _ => none
 | n + 1, t32_a, o29_a => cond (decide (t32_a < ((List.replicate ((w64 ((2 : Int) + (Int.tmod (w64 (side0)) (4 : Int)))).toNat) ([] : List Int)).length : Int))) (chk (mkOk (w64 ((2 : Int) + (Int.tmod (w64 (side0)) (4 : Int)))) (w64 ((2 : Int) + (Int.tmod (w64 (side0)) (4 : Int)))) 8) (chk (decide (0 ≤ t32_a ∧ t32_a < (o29_a.length : Int))) ((l3a a10 a11 a6 a7 a8 a9 N side0 orders1 n (w64 (t32_a + (1 : Int))) (o29_a.set t32_a.toNat (List.replicate ((w64 ((2 : Int) + (Int.tmod (w64 (side0)) (4 : Int)))).toNat) (0 : Int)))))))
   ((l3b a10 a11 a6 a7 a8 a9 N side0 orders1 N (0 : Int) (0 : Int) o29_a))
theorem wl3a (a10 : (Int × Int × List (Int × Int × Int × Unit) × Unit) → Option (Bool × Int)) (a11 : (Int × Int × List (Int × Int × Int × Unit) × Unit) → Option (List Int × Int)) (a6 : Int → (List Int) → Option (List Int)) (a7 : (List (List Int)) → Int → Option (Int × Int)) (a8 : (List (List Int)) → Int → Option (List Int × List Int × Int)) (a9 : Option (Bool)) (N : Nat) (side0 : Int) (orders1 : List (List Int)) (m : Nat) (t32_a : Int) (o29_a : List (List Int)) : R3_0 a10 a11 a6 a7 a8 a9 N (m + 1) (Sl3a side0 orders1 t32_a o29_a) = cond (decide (t32_a < ((List.replicate ((w64 ((2 : Int) + (Int.tmod (w64 (side0)) (4 : Int)))).toNat) ([] : List Int)).length : Int))) (chk (mkOk (w64 ((2 : Int) + (Int.tmod (w64 (side0)) (4 : Int)))) (w64 ((2 : Int) + (Int.tmod (w64 (side0)) (4 : Int)))) 8) (chk (decide (0 ≤ t32_a ∧ t32_a < (o29_a.length : Int))) ((R3_0 a10 a11 a6 a7 a8 a9 N m (Sl3a side0 orders1 (w64 (t32_a + (1 : Int))) (o29_a.set t32_a.toNat (List.replicate ((w64 ((2 : Int) + (Int.tmod (w64 (side0)) (4 : Int)))).toNat) (0 : Int))))))))
   ((R3_1 a10 a11 a6 a7 a8 a9 N N (Sl3b side0 orders1 (0 : Int) (0 : Int) o29_a))) := by kernel_rfl
theorem ql3a (a10 : (Int × Int × List (Int × Int × Int × Unit) × Unit) → Option (Bool × Int)) (a11 : (Int × Int × List (Int × Int × Int × Unit) × Unit) → Option (List Int × Int)) (a6 : Int → (List Int) → Option (List Int)) (a7 : (List (List Int)) → Int → Option (Int × Int)) (a8 : (List (List Int)) → Int → Option (List Int × List Int × Int)) (a9 : Option (Bool)) (N : Nat) (side0 : Int) (orders1 : List (List Int)) : ∀ (m : Nat) (t32_a : Int) (o29_a : List (List Int)), R3_0 a10 a11 a6 a7 a8 a9 N m (Sl3a side0 orders1 t32_a o29_a) = l3a a10 a11 a6 a7 a8 a9 N side0 orders1 m t32_a o29_a
        | 0, _, _ => rfl
        | m + 1, t32_a, o29_a => by rw [wl3a]; simp only [l3a, ql3b, ql3a a10 a11 a6 a7 a8 a9 N side0 orders1 m]
def m3 (a10 : (Int × Int × List (Int × Int × Int × Unit) × Unit) → Option (Bool × Int)) (a11 : (Int × Int × List (Int × Int × Int × Unit) × Unit) → Option (List Int × Int)) (a6 : Int → (List Int) → Option (List Int)) (a7 : (List (List Int)) → Int → Option (Int × Int)) (a8 : (List (List Int)) → Int → Option (List Int × List Int × Int)) (a9 : Option (Bool)) (N : Nat) (side0 : Int) (orders1 : List (List Int)) : Option (Bool) :=
   chk (mkOk (w64 ((2 : Int) + (Int.tmod (w64 (side0)) (4 : Int)))) (w64 ((2 : Int) + (Int.tmod (w64 (side0)) (4 : Int)))) 24) ((l3a a10 a11 a6 a7 a8 a9 N side0 orders1 N (0 : Int) (List.replicate ((w64 ((2 : Int) + (Int.tmod (w64 (side0)) (4 : Int)))).toNat) ([] : List Int))))
theorem wm3 (a10 : (Int × Int × List (Int × Int × Int × Unit) × Unit) → Option (Bool × Int)) (a11 : (Int × Int × List (Int × Int × Int × Unit) × Unit) → Option (List Int × Int)) (a6 : Int → (List Int) → Option (List Int)) (a7 : (List (List Int)) → Int → Option (Int × Int)) (a8 : (List (List Int)) → Int → Option (List Int × List Int × Int)) (a9 : Option (Bool)) (N : Nat) (side0 : Int) (orders1 : List (List Int)) : callF (E3 a10 a11 a6 a7 a8 a9) lv3 N en3 c3 (resOf Try.f3) 178 [.dv (.int .u8) side0, .dv (.sl (.arr 5 (.int .u8))) orders1] [] dec3 = chk (mkOk (w64 ((2 : Int) + (Int.tmod (w64 (side0)) (4 : Int)))) (w64 ((2 : Int) + (Int.tmod (w64 (side0)) (4 : Int)))) 24) ((R3_0 a10 a11 a6 a7 a8 a9 N N (Sl3a side0 orders1 (0 : Int) (List.replicate ((w64 ((2 : Int) + (Int.tmod (w64 (side0)) (4 : Int)))).toNat) ([] : List Int))))) := by kernel_rfl
theorem k3 (a10 : (Int × Int × List (Int × Int × Int × Unit) × Unit) → Option (Bool × Int)) (a11 : (Int × Int × List (Int × Int × Int × Unit) × Unit) → Option (List Int × Int)) (a6 : Int → (List Int) → Option (List Int)) (a7 : (List (List Int)) → Int → Option (Int × Int)) (a8 : (List (List Int)) → Int → Option (List Int × List Int × Int)) (a9 : Option (Bool)) (N : Nat) (side0 : Int) (orders1 : List (List Int)) : callF (E3 a10 a11 a6 a7 a8 a9) lv3 N en3 c3 (resOf Try.f3) 178 [.dv (.int .u8) side0, .dv (.sl (.arr 5 (.int .u8))) orders1] [] dec3 = m3 a10 a11 a6 a7 a8 a9 N side0 orders1 := by rw [wm3]; simp only [m3, ql3a]
theorem ok3 (a10 : (Int × Int × List (Int × Int × Int × Unit) × Unit) → Option (Bool × Int)) (a11 : (Int × Int × List (Int × Int × Int × Unit) × Unit) → Option (List Int × Int)) (a6 : Int → (List Int) → Option (List Int)) (a7 : (List (List Int)) → Int → Option (Int × Int)) (a8 : (List (List Int)) → Int → Option (List Int × List Int × Int)) (a9 : Option (Bool)) (h10 : FnOk Try.prog 10 (F10 a10)) (h11 : FnOk Try.prog 11 (F11 a11)) (h6 : FnOk Try.prog 6 (F6 a6)) (h7 : FnOk Try.prog 7 (F7 a7)) (h8 : FnOk Try.prog 8 (F8 a8)) (h9 : FnOk Try.prog 9 (F9 a9)) (a : Int → (List (List Int)) → Option (Bool)) (h : ∀ side0 orders1 r, a side0 orders1 = some r → (∃ N, m3 a10 a11 a6 a7 a8 a9 N side0 orders1 = some r)) : FnOk Try.prog 3 (F3 a) := by
 intro args Of x hx
 simp only [F3] at hx
 split at hx
 ·rename_i side0 orders1
  obtain ⟨N, hN⟩ := h _ _ _ hx
  refine lifted (L := [(10, F10 a10), (11, F11 a11), (6, F6 a6), (7, F7 a7), (8, F8 a8), (9, F9 a9)]) (rc := (fun i => ([(17, [some (.int .i64), some (.int .i64), none]), (113, [some (.int .i64), some (.int .i64), none])] : List (Nat × List (Option DT))).lookup i)) (fz := (fun i => ([29] : List Nat).contains i)) (fn := Try.f3) (by kernel_rfl) (by kernel_rfl) (by kernel_rfl) (by kernel_rfl) rfl ?_ ((k3 a10 a11 a6 a7 a8 a9 N _ _).trans hN) ?_
  ·intro p hp; simp only [List.mem_cons, List.not_mem_nil, or_false] at hp; rcases hp with rfl | rfl | rfl | rfl | rfl | rfl
   ·exact h10
   ·exact h11
   ·exact h6
   ·exact h7
   ·exact h8
   ·exact h9
  ·intro l o hd
   simp only [dec3] at hd
   split at hd
   ·obtain rfl := Option.some.inj hd; exact ⟨rfl, rfl⟩
   ·cases hd
 ·cases hx
end Go.Proofs.Ytplbdongegfdnaa
