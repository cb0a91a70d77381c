/-
 The functions that the law reaches, told as plain functions.
-/
import Derived.Test.YtplbdongegfdnaaWM0
namespace Go.Proofs.Ytplbdongegfdnaa
open Go.RowKit
set_option linter.unusedVariables false
abbrev rmZ0 := ((0 : Int), ((0 : Int), ((0 : Int), ())))
abbrev rmZ1 := Int × Int × Int × Unit
abbrev rmZ2 : DT := .pair (.int .i64) (.pair (.int .i64) (.pair (.sl (.pair (.int .i64) (.pair (.int .i64) (.pair (.int .i64) (.unit))))) (.unit)))
abbrev rmZ3 : List Bool := [false, false, false, false, false, false]
abbrev rmZ4 := Int × Int × List rmZ1 × Unit
abbrev rmZ5 : DT := .pair (.int .i64) (.pair (.int .i64) (.pair (.int .i64) (.unit)))
abbrev rmZ6 := ((0 : Int), ((0 : Int), (([] : List rmZ1), ())))
abbrev RgmT0 := Int → Int → Int → Option (Bool)
abbrev RgmT1 := Int → Int → Option (Bool)
abbrev RgmT2 := ((Int × Int × List (Int × Int × Int × Unit) × Unit) × List Int × Unit) → Int → Option (Int)
abbrev RgmT3 := ((Int × Int × List (Int × Int × Int × Unit) × Unit) × List Int × Unit) → Option (Int)
abbrev RgmT4 := (Int × Int × List (Int × Int × Int × Unit) × Unit) → Option (Int)
abbrev RgmT5 := (Int × Int × List (Int × Int × Int × Unit) × Unit) → Int → Option ((Int × Int × List (Int × Int × Int × Unit) × Unit) × List Int × Unit)
abbrev RgmT6 := ((Int × Int × List (Int × Int × Int × Unit) × Unit) × List Int × Unit) → Option (Bool)
abbrev RgmT7 := (Int × Int × List (Int × Int × Int × Unit) × Unit) → Option (Bool × Int)
abbrev RgmT8 := Int → (List Int) → Option (List Int)
abbrev RgmT9 := (Int × Int × Int × Unit) → Option (Bool)
abbrev RgmT10 := (List (Int × Int × Int × Unit)) → Option (Int)
abbrev RgmT11 := (List (Int × Int × Int × Unit)) → Option (Bool)
abbrev RgmT12 := TS → Option (Int × List (Int × Int × Int × Unit) × List Int)
abbrev RgmT13 := Int → Int → Int → (List (Int × Int × Int × Unit)) → (List Int) → Option (Int × List (Int × Int × Int × Unit) × List Int)
abbrev RgmT14 := List (Int × Int × Int × Unit)
abbrev RgmT15 := Int → Int → Int → (List (Int × Int × Int × Unit)) → Option (Int × Int × List (Int × Int × Int × Unit) × List Int)
abbrev RgmT16 := (Option (List (Int × Int × Int × Unit))) → Option (List (Int × Int × Int × Unit))
abbrev RgmT17 := (Int × Int × Int × Unit) → Int → Int → (List (Int × Int × List (Int × Int × Int × Unit) × Unit)) → (List (Int × Int × Int × Unit)) → (List (Int × Int × Int × Unit)) → Option (List (Int × Int × Int × Unit) × List (Int × Int × Int × Unit) × Int × Int × List (Int × Int × List (Int × Int × Int × Unit) × Unit))
abbrev RgmT18 := List (Int × Int × List (Int × Int × Int × Unit) × Unit)
abbrev RgmT19 := (Int × Int × List (Int × Int × Int × Unit) × Unit) → Option (List (Int × Int × Int × Unit) × Int)
abbrev RgmT20 := TS → Option (List (List Int × List Int × Unit) × Int)
abbrev RgmT21 := Int → (Option (List Int)) → (List (List Bool)) → (List (Int × Int × List (Int × Int × Int × Unit) × Unit)) → Int → (List (List (List Bool))) → (List (List Bool)) → Int → Option (Option (List Int) × List (List Bool) × List (Int × Int × List (Int × Int × Int × Unit) × Unit) × Int × List (List (List Bool)) × List (List Bool) × Int)
abbrev RgmT22 := (Option (List Int)) → Option (List Int)
abbrev RgmT23 := Int → (Option (List Int)) → (List (List Bool)) → Int → (List (Int × Int × List (Int × Int × Int × Unit) × Unit)) → Int → (List (List Bool)) → (List (List (List Bool))) → Option (Option (List Int) × List (List Bool) × Int × List (Int × Int × List (Int × Int × Int × Unit) × Unit) × Int × List (List Bool) × List (List (List Bool)))
abbrev RgmT24 := (Int × Int × List (Int × Int × Int × Unit) × Unit) → Option (List Int × Int)
abbrev RgmT25 := Int → (List Int) → (List Int) → Option LL
abbrev RgmT26 := LL → Option (Int)
abbrev RgmT27 := (Int × Int × List (Int × Int × Int × Unit) × Unit) → Option (Int × Int)
abbrev RgmT28 := (Int × Int × List (Int × Int × Int × Unit) × Unit) → Option (List (List Int × List Int × Unit) × Int)
abbrev RgmT29 := (Int × Int × List (Int × Int × Int × Unit) × Unit) → Int → Option (List Int × Int)
abbrev RgmT30 := Option (Bool)
abbrev RgmT31 := TS → Option (Bool)
def E27 (X : RgmT0) : Env := mkE TI TY [(41, F41 X)] nrc nfz
noncomputable def c27 : Code := bodyOf Try.f27
def nm27_0 : Norm := ⟨[1, 22, 23, 24], [1], [], []⟩
def lv27 : Nat → Option Norm := norms [(6, nm27_0)]
def en27 : End := ⟨[], ⟨[51], [], [], []⟩⟩
def dec27 (l : List TV) (o : List (Nat × TO)) : Option (Int) := match l, o with | [.dv (.int .i64) x0], [] => some (x0) | _, _ => none
def Sl27a (r0 : Int × Int × List rmZ1 × Unit) (t24_a : Int) : TS := ⟨slots 51 [(1, .ptr 1 0 []), (22, .dv (.sl rmZ5) r0.2.2.1), (23, .dv (.int .i64) (r0.2.2.1.length : Int)), (24, .dv (.int .i64) t24_a)], [(1, .row rmZ2 ([r0] : List rmZ4))]⟩
noncomputable def K27_0 (X : RgmT0) (N : Nat) : Kont (Int) := kont (E27 X) lv27 N c27 [1, 1, 0, 1, 0] (fin TI en27 (resOf Try.f27) dec27)
noncomputable def R27_0 (X : RgmT0) (N : Nat) (m : Nat) : TS → Option (Int) := loopK (den (E27 X) lv27 N (sub c27 [1, 1, 0, 1, 0, 0])) (TS.norm nm27_0) (K27_0 X N) m
def l27a (X : RgmT0) (N : Nat) (r0 : Int × Int × List rmZ1 × Unit) : Nat → Int → Option (Int)
 | 0, _ => none
 | n + 1, t24_a => cond (decide (t24_a < (r0.2.2.1.length : Int))) (chk (decide (0 ≤ t24_a ∧ t24_a < (r0.2.2.1.length : Int))) ((X (0 : Int) ((r0.2.2.1.getD t24_a.toNat rmZ0).1) (w64 (r0.1 - (1 : Int)))).bind fun r3 =>
   cond (!r3) (some (5 : Int))
   ((X (0 : Int) (((r0.2.2.1.getD t24_a.toNat rmZ0).2).1) (w64 (r0.2.1 - (1 : Int)))).bind fun r4 =>
   cond (!r4) (some (5 : Int))
   ((X (0 : Int) ((((r0.2.2.1.getD t24_a.toNat rmZ0).2).2).1) (2 : Int)).bind fun r5 =>
   cond (!r5) (some (10 : Int))
   ((l27a X N r0 n (w64 (t24_a + 1))))))))
   (some (0 : Int))
theorem wl27a (X : RgmT0) (N : Nat) (r0 : Int × Int × List rmZ1 × Unit) (m : Nat) (t24_a : Int) : R27_0 X N (m + 1) (Sl27a r0 t24_a) = cond (decide (t24_a < (r0.2.2.1.length : Int))) (chk (decide (0 ≤ t24_a ∧ t24_a < (r0.2.2.1.length : Int))) ((X (0 : Int) ((r0.2.2.1.getD t24_a.toNat rmZ0).1) (w64 (r0.1 - (1 : Int)))).bind fun r3 =>
   cond (!r3) (some (5 : Int))
   ((X (0 : Int) (((r0.2.2.1.getD t24_a.toNat rmZ0).2).1) (w64 (r0.2.1 - (1 : Int)))).bind fun r4 =>
   cond (!r4) (some (5 : Int))
   ((X (0 : Int) ((((r0.2.2.1.getD t24_a.toNat rmZ0).2).2).1) (2 : Int)).bind fun r5 =>
   cond (!r5) (some (10 : Int))
   ((R27_0 X N m (Sl27a r0 (w64 (t24_a + 1)))))))))
   (some (0 : Int)) := by kernel_rfl
theorem ql27a (X : RgmT0) (N : Nat) (r0 : Int × Int × List rmZ1 × Unit) : ∀ (m : Nat) (t24_a : Int), R27_0 X N m (Sl27a r0 t24_a) = l27a X N r0 m t24_a
        | 0, _ => rfl
        | m + 1, t24_a => by rw [wl27a]; simp only [l27a, ql27a X N r0 m]
def m27 (X : RgmT0) (N : Nat) (r0 : Int × Int × List rmZ1 × Unit) : Option (Int) :=
   (X (1 : Int) r0.1 (6 : Int)).bind fun r1 =>
   cond (!r1) (some (4 : Int))
   ((X (1 : Int) r0.2.1 (6 : Int)).bind fun r2 =>
   cond (!r2) (some (4 : Int))
   (cond (decide ((r0.2.2.1.length : Int) > (24 : Int))) (some (2 : Int))
   ((l27a X N r0 N (0 : Int)))))
theorem wm27 (X : RgmT0) (N : Nat) (r0 : Int × Int × List rmZ1 × Unit) : callF (E27 X) lv27 N en27 c27 (resOf Try.f27) 50 [.dv rmZ2 r0] [] dec27 = (X (1 : Int) r0.1 (6 : Int)).bind fun r1 =>
   cond (!r1) (some (4 : Int))
   ((X (1 : Int) r0.2.1 (6 : Int)).bind fun r2 =>
   cond (!r2) (some (4 : Int))
   (cond (decide ((r0.2.2.1.length : Int) > (24 : Int))) (some (2 : Int))
   ((R27_0 X N N (Sl27a r0 (0 : Int)))))) := by kernel_rfl
theorem k27 (X : RgmT0) (N : Nat) (r0 : Int × Int × List rmZ1 × Unit) : callF (E27 X) lv27 N en27 c27 (resOf Try.f27) 50 [.dv rmZ2 r0] [] dec27 = m27 X N r0 := by rw [wm27]; simp only [m27, ql27a]
theorem ok27 (X : RgmT0) (h41 : FnOk Try.prog 41 (F41 X)) (a : rmZ4 → Option (Int)) (h : ∀ r0 r, a r0 = some r → (∃ N, m27 X N r0 = some r)) : FnOk Try.prog 27 (F27 a) := by
 intro args Of x hx
 simp only [F27] at hx
 split at hx
 ·rename_i r0
  obtain ⟨N, hN⟩ := h _ _ hx
  refine lifted (L := [(41, F41 X)]) (rc := nrc) (fz := nfz) (fn := Try.f27) (by kernel_rfl) (by kernel_rfl) (by kernel_rfl) (by kernel_rfl) rfl ?_ ((k27 X N _).trans hN) ?_
  ·intro p hp; simp only [List.mem_cons, List.not_mem_nil, or_false] at hp; rcases hp with rfl; exact h41
  ·intro l o hd
   simp only [dec27] at hd
   split at hd
   ·obtain rfl := oij hd; exact ⟨rfl, rfl⟩
   ·cases hd
 ·cases hx
def E28 : Env := mkE TI TY [] (fun i => ([(5, [some (.pair (.int .i64) (.pair (.int .i64) (.pair (.sl (.pair (.int .i64) (.pair (.int .i64) (.pair (.int .i64) (.unit))))) (.unit)))), none]), (17, [some (.pair (.int .i64) (.pair (.int .i64) (.pair (.sl (.pair (.int .i64) (.pair (.int .i64) (.pair (.int .i64) (.unit))))) (.unit)))), none])] : List (Nat × List (Option DT))).lookup i) nfz
noncomputable def c28 : Code := bodyOf Try.f28
def nm28_0 : Norm := ⟨[1, 2, 4, 5, 19, 20, 21], [2, 4, 5, 16], [], []⟩
def lv28 : Nat → Option Norm := norms [(3, nm28_0)]
def en28 : End := ⟨[(69, .pair (.pair (.int .i64) (.pair (.int .i64) (.pair (.sl (.pair (.int .i64) (.pair (.int .i64) (.pair (.int .i64) (.unit))))) (.unit)))) (.pair (.sl (.int .u16)) (.unit)))], ⟨[69], [], [], []⟩⟩
def dec28 (l : List TV) (o : List (Nat × TO)) : Option ((Int × Int × List (Int × Int × Int × Unit) × Unit) × List Int × Unit) := match l, o with | [.dv (.pair (.pair (.int .i64) (.pair (.int .i64) (.pair (.sl (.pair (.int .i64) (.pair (.int .i64) (.pair (.int .i64) (.unit))))) (.unit)))) (.pair (.sl (.int .u16)) (.unit))) x0], [] => some (x0) | _, _ => none
def Sl28a (r0 : Int × Int × List rmZ1 × Unit) (zo : Int) (t21_a : Int) (o16_a : List Int) : TS := ⟨slots 69 [(1, .dv (.int .i64) zo), (2, .ptr 2 0 []), (4, .ptr 4 0 []), (5, .ptr 5 0 []), (19, .dv (.sl rmZ5) r0.2.2.1), (20, .dv (.int .i64) (r0.2.2.1.length : Int)), (21, .dv (.int .i64) t21_a)], [(2, .row rmZ2 ([r0] : List rmZ4)), (4, .row (.pair rmZ2 (.pair (.sl (.int .u16)) (.unit))) ([(rmZ6, (([] : List Int), ()))] : List (rmZ4 × List Int × Unit))), (5, .rcd [.dv rmZ2 r0, .row 16]), (16, .row (.int .u16) o16_a)]⟩
noncomputable def K28_0 (N : Nat) : Kont ((Int × Int × List (Int × Int × Int × Unit) × Unit) × List Int × Unit) := kont (E28) lv28 N c28 [1, 1, 0, 1, 0] (fin TI en28 (resOf Try.f28) dec28)
noncomputable def R28_0 (N : Nat) (m : Nat) : TS → Option ((Int × Int × List (Int × Int × Int × Unit) × Unit) × List Int × Unit) := loopK (den (E28) lv28 N (sub c28 [1, 1, 0, 1, 0, 0])) (TS.norm nm28_0) (K28_0 N) m
def l28a (N : Nat) (r0 : Int × Int × List rmZ1 × Unit) (zo : Int) : Nat → Int → (List Int) → Option (rmZ4 × List Int × Unit)
 | 0, _, _ => none
 | n + 1, t21_a, o16_a => cond (decide (t21_a < (r0.2.2.1.length : Int))) (chk (decide (0 ≤ t21_a ∧ t21_a < (r0.2.2.1.length : Int))) (cond (t21_a != zo) (cond (((((r0.2.2.1.getD t21_a.toNat rmZ0).2).2).1) != (2 : Int)) (chk (decide (0 ≤ (r0.2.2.1.getD t21_a.toNat rmZ0).1 ∧ (r0.2.2.1.getD t21_a.toNat rmZ0).1 < (o16_a.length : Int))) (chk (decide (0 ≤ w64 (r0.1 + (((r0.2.2.1.getD t21_a.toNat rmZ0).2).1)))) (chk (decide (0 ≤ (r0.2.2.1.getD t21_a.toNat rmZ0).1 ∧ (r0.2.2.1.getD t21_a.toNat rmZ0).1 < (o16_a.length : Int))) (cond (t21_a != zo) (cond (((((r0.2.2.1.getD t21_a.toNat rmZ0).2).2).1) != (1 : Int)) (chk (decide (0 ≤ w64 (r0.1 + (((r0.2.2.1.getD t21_a.toNat rmZ0).2).1)) ∧ w64 (r0.1 + (((r0.2.2.1.getD t21_a.toNat rmZ0).2).1)) < ((o16_a.set (((r0.2.2.1.getD t21_a.toNat rmZ0).1).toNat) (bOr .u16 (o16_a.getD (((r0.2.2.1.getD t21_a.toNat rmZ0).1).toNat) (0 : Int)) (IntKind.wrap .u16 ((1 : Int) * 2 ^ min (Int.toNat (w64 (r0.1 + (((r0.2.2.1.getD t21_a.toNat rmZ0).2).1)))) 16)))).length : Int))) (chk (decide (0 ≤ (r0.2.2.1.getD t21_a.toNat rmZ0).1)) (chk (decide (0 ≤ w64 (r0.1 + (((r0.2.2.1.getD t21_a.toNat rmZ0).2).1)) ∧ w64 (r0.1 + (((r0.2.2.1.getD t21_a.toNat rmZ0).2).1)) < ((o16_a.set (((r0.2.2.1.getD t21_a.toNat rmZ0).1).toNat) (bOr .u16 (o16_a.getD (((r0.2.2.1.getD t21_a.toNat rmZ0).1).toNat) (0 : Int)) (IntKind.wrap .u16 ((1 : Int) * 2 ^ min (Int.toNat (w64 (r0.1 + (((r0.2.2.1.getD t21_a.toNat rmZ0).2).1)))) 16)))).length : Int))) ((l28a N r0 zo n (w64 (t21_a + 1)) ((o16_a.set (((r0.2.2.1.getD t21_a.toNat rmZ0).1).toNat) (bOr .u16 (o16_a.getD (((r0.2.2.1.getD t21_a.toNat rmZ0).1).toNat) (0 : Int)) (IntKind.wrap .u16 ((1 : Int) * 2 ^ min (Int.toNat (w64 (r0.1 + (((r0.2.2.1.getD t21_a.toNat rmZ0).2).1)))) 16)))).set ((w64 (r0.1 + (((r0.2.2.1.getD t21_a.toNat rmZ0).2).1))).toNat) (bOr .u16 ((o16_a.set (((r0.2.2.1.getD t21_a.toNat rmZ0).1).toNat) (bOr .u16 (o16_a.getD (((r0.2.2.1.getD t21_a.toNat rmZ0).1).toNat) (0 : Int)) (IntKind.wrap .u16 ((1 : Int) * 2 ^ min (Int.toNat (w64 (r0.1 + (((r0.2.2.1.getD t21_a.toNat rmZ0).2).1)))) 16)))).getD ((w64 (r0.1 + (((r0.2.2.1.getD t21_a.toNat rmZ0).2).1))).toNat) (0 : Int)) (IntKind.wrap .u16 ((1 : Int) * 2 ^ min (Int.toNat ((r0.2.2.1.getD t21_a.toNat rmZ0).1)) 16)))))))))
   ((l28a N r0 zo n (w64 (t21_a + 1)) (o16_a.set (((r0.2.2.1.getD t21_a.toNat rmZ0).1).toNat) (bOr .u16 (o16_a.getD (((r0.2.2.1.getD t21_a.toNat rmZ0).1).toNat) (0 : Int)) (IntKind.wrap .u16 ((1 : Int) * 2 ^ min (Int.toNat (w64 (r0.1 + (((r0.2.2.1.getD t21_a.toNat rmZ0).2).1)))) 16)))))))
   ((l28a N r0 zo n (w64 (t21_a + 1)) (o16_a.set (((r0.2.2.1.getD t21_a.toNat rmZ0).1).toNat) (bOr .u16 (o16_a.getD (((r0.2.2.1.getD t21_a.toNat rmZ0).1).toNat) (0 : Int)) (IntKind.wrap .u16 ((1 : Int) * 2 ^ min (Int.toNat (w64 (r0.1 + (((r0.2.2.1.getD t21_a.toNat rmZ0).2).1)))) 16))))))))))
   (cond (t21_a != zo) (cond (((((r0.2.2.1.getD t21_a.toNat rmZ0).2).2).1) != (1 : Int)) (chk (decide (0 ≤ w64 (r0.1 + (((r0.2.2.1.getD t21_a.toNat rmZ0).2).1)) ∧ w64 (r0.1 + (((r0.2.2.1.getD t21_a.toNat rmZ0).2).1)) < (o16_a.length : Int))) (chk (decide (0 ≤ (r0.2.2.1.getD t21_a.toNat rmZ0).1)) (chk (decide (0 ≤ w64 (r0.1 + (((r0.2.2.1.getD t21_a.toNat rmZ0).2).1)) ∧ w64 (r0.1 + (((r0.2.2.1.getD t21_a.toNat rmZ0).2).1)) < (o16_a.length : Int))) ((l28a N r0 zo n (w64 (t21_a + 1)) (o16_a.set ((w64 (r0.1 + (((r0.2.2.1.getD t21_a.toNat rmZ0).2).1))).toNat) (bOr .u16 (o16_a.getD ((w64 (r0.1 + (((r0.2.2.1.getD t21_a.toNat rmZ0).2).1))).toNat) (0 : Int)) (IntKind.wrap .u16 ((1 : Int) * 2 ^ min (Int.toNat ((r0.2.2.1.getD t21_a.toNat rmZ0).1)) 16)))))))))
   ((l28a N r0 zo n (w64 (t21_a + 1)) o16_a)))
   ((l28a N r0 zo n (w64 (t21_a + 1)) o16_a))))
   (cond (t21_a != zo) (cond (((((r0.2.2.1.getD t21_a.toNat rmZ0).2).2).1) != (1 : Int)) (chk (decide (0 ≤ w64 (r0.1 + (((r0.2.2.1.getD t21_a.toNat rmZ0).2).1)) ∧ w64 (r0.1 + (((r0.2.2.1.getD t21_a.toNat rmZ0).2).1)) < (o16_a.length : Int))) (chk (decide (0 ≤ (r0.2.2.1.getD t21_a.toNat rmZ0).1)) (chk (decide (0 ≤ w64 (r0.1 + (((r0.2.2.1.getD t21_a.toNat rmZ0).2).1)) ∧ w64 (r0.1 + (((r0.2.2.1.getD t21_a.toNat rmZ0).2).1)) < (o16_a.length : Int))) ((l28a N r0 zo n (w64 (t21_a + 1)) (o16_a.set ((w64 (r0.1 + (((r0.2.2.1.getD t21_a.toNat rmZ0).2).1))).toNat) (bOr .u16 (o16_a.getD ((w64 (r0.1 + (((r0.2.2.1.getD t21_a.toNat rmZ0).2).1))).toNat) (0 : Int)) (IntKind.wrap .u16 ((1 : Int) * 2 ^ min (Int.toNat ((r0.2.2.1.getD t21_a.toNat rmZ0).1)) 16)))))))))
   ((l28a N r0 zo n (w64 (t21_a + 1)) o16_a)))
   ((l28a N r0 zo n (w64 (t21_a + 1)) o16_a)))))
   (some (r0, (o16_a, ())))
theorem wl28a (N : Nat) (r0 : Int × Int × List rmZ1 × Unit) (zo : Int) (m : Nat) (t21_a : Int) (o16_a : List Int) : R28_0 N (m + 1) (Sl28a r0 zo t21_a o16_a) = cond (decide (t21_a < (r0.2.2.1.length : Int))) (chk (decide (0 ≤ t21_a ∧ t21_a < (r0.2.2.1.length : Int))) (cond (t21_a != zo) (cond (((((r0.2.2.1.getD t21_a.toNat rmZ0).2).2).1) != (2 : Int)) (chk (decide (0 ≤ (r0.2.2.1.getD t21_a.toNat rmZ0).1 ∧ (r0.2.2.1.getD t21_a.toNat rmZ0).1 < (o16_a.length : Int))) (chk (decide (0 ≤ w64 (r0.1 + (((r0.2.2.1.getD t21_a.toNat rmZ0).2).1)))) (chk (decide (0 ≤ (r0.2.2.1.getD t21_a.toNat rmZ0).1 ∧ (r0.2.2.1.getD t21_a.toNat rmZ0).1 < (o16_a.length : Int))) (cond (t21_a != zo) (cond (((((r0.2.2.1.getD t21_a.toNat rmZ0).2).2).1) != (1 : Int)) (chk (decide (0 ≤ w64 (r0.1 + (((r0.2.2.1.getD t21_a.toNat rmZ0).2).1)) ∧ w64 (r0.1 + (((r0.2.2.1.getD t21_a.toNat rmZ0).2).1)) < ((o16_a.set (((r0.2.2.1.getD t21_a.toNat rmZ0).1).toNat) (bOr .u16 (o16_a.getD (((r0.2.2.1.getD t21_a.toNat rmZ0).1).toNat) (0 : Int)) (IntKind.wrap .u16 ((1 : Int) * 2 ^ min (Int.toNat (w64 (r0.1 + (((r0.2.2.1.getD t21_a.toNat rmZ0).2).1)))) 16)))).length : Int))) (chk (decide (0 ≤ (r0.2.2.1.getD t21_a.toNat rmZ0).1)) (chk (decide (0 ≤ w64 (r0.1 + (((r0.2.2.1.getD t21_a.toNat rmZ0).2).1)) ∧ w64 (r0.1 + (((r0.2.2.1.getD t21_a.toNat rmZ0).2).1)) < ((o16_a.set (((r0.2.2.1.getD t21_a.toNat rmZ0).1).toNat) (bOr .u16 (o16_a.getD (((r0.2.2.1.getD t21_a.toNat rmZ0).1).toNat) (0 : Int)) (IntKind.wrap .u16 ((1 : Int) * 2 ^ min (Int.toNat (w64 (r0.1 + (((r0.2.2.1.getD t21_a.toNat rmZ0).2).1)))) 16)))).length : Int))) ((R28_0 N m (Sl28a r0 zo (w64 (t21_a + 1)) ((o16_a.set (((r0.2.2.1.getD t21_a.toNat rmZ0).1).toNat) (bOr .u16 (o16_a.getD (((r0.2.2.1.getD t21_a.toNat rmZ0).1).toNat) (0 : Int)) (IntKind.wrap .u16 ((1 : Int) * 2 ^ min (Int.toNat (w64 (r0.1 + (((r0.2.2.1.getD t21_a.toNat rmZ0).2).1)))) 16)))).set ((w64 (r0.1 + (((r0.2.2.1.getD t21_a.toNat rmZ0).2).1))).toNat) (bOr .u16 ((o16_a.set (((r0.2.2.1.getD t21_a.toNat rmZ0).1).toNat) (bOr .u16 (o16_a.getD (((r0.2.2.1.getD t21_a.toNat rmZ0).1).toNat) (0 : Int)) (IntKind.wrap .u16 ((1 : Int) * 2 ^ min (Int.toNat (w64 (r0.1 + (((r0.2.2.1.getD t21_a.toNat rmZ0).2).1)))) 16)))).getD ((w64 (r0.1 + (((r0.2.2.1.getD t21_a.toNat rmZ0).2).1))).toNat) (0 : Int)) (IntKind.wrap .u16 ((1 : Int) * 2 ^ min (Int.toNat ((r0.2.2.1.getD t21_a.toNat rmZ0).1)) 16))))))))))
   ((R28_0 N m (Sl28a r0 zo (w64 (t21_a + 1)) (o16_a.set (((r0.2.2.1.getD t21_a.toNat rmZ0).1).toNat) (bOr .u16 (o16_a.getD (((r0.2.2.1.getD t21_a.toNat rmZ0).1).toNat) (0 : Int)) (IntKind.wrap .u16 ((1 : Int) * 2 ^ min (Int.toNat (w64 (r0.1 + (((r0.2.2.1.getD t21_a.toNat rmZ0).2).1)))) 16))))))))
   ((R28_0 N m (Sl28a r0 zo (w64 (t21_a + 1)) (o16_a.set (((r0.2.2.1.getD t21_a.toNat rmZ0).1).toNat) (bOr .u16 (o16_a.getD (((r0.2.2.1.getD t21_a.toNat rmZ0).1).toNat) (0 : Int)) (IntKind.wrap .u16 ((1 : Int) * 2 ^ min (Int.toNat (w64 (r0.1 + (((r0.2.2.1.getD t21_a.toNat rmZ0).2).1)))) 16)))))))))))
   (cond (t21_a != zo) (cond (((((r0.2.2.1.getD t21_a.toNat rmZ0).2).2).1) != (1 : Int)) (chk (decide (0 ≤ w64 (r0.1 + (((r0.2.2.1.getD t21_a.toNat rmZ0).2).1)) ∧ w64 (r0.1 + (((r0.2.2.1.getD t21_a.toNat rmZ0).2).1)) < (o16_a.length : Int))) (chk (decide (0 ≤ (r0.2.2.1.getD t21_a.toNat rmZ0).1)) (chk (decide (0 ≤ w64 (r0.1 + (((r0.2.2.1.getD t21_a.toNat rmZ0).2).1)) ∧ w64 (r0.1 + (((r0.2.2.1.getD t21_a.toNat rmZ0).2).1)) < (o16_a.length : Int))) ((R28_0 N m (Sl28a r0 zo (w64 (t21_a + 1)) (o16_a.set ((w64 (r0.1 + (((r0.2.2.1.getD t21_a.toNat rmZ0).2).1))).toNat) (bOr .u16 (o16_a.getD ((w64 (r0.1 + (((r0.2.2.1.getD t21_a.toNat rmZ0).2).1))).toNat) (0 : Int)) (IntKind.wrap .u16 ((1 : Int) * 2 ^ min (Int.toNat ((r0.2.2.1.getD t21_a.toNat rmZ0).1)) 16))))))))))
   ((R28_0 N m (Sl28a r0 zo (w64 (t21_a + 1)) o16_a))))
   ((R28_0 N m (Sl28a r0 zo (w64 (t21_a + 1)) o16_a)))))
   (cond (t21_a != zo) (cond (((((r0.2.2.1.getD t21_a.toNat rmZ0).2).2).1) != (1 : Int)) (chk (decide (0 ≤ w64 (r0.1 + (((r0.2.2.1.getD t21_a.toNat rmZ0).2).1)) ∧ w64 (r0.1 + (((r0.2.2.1.getD t21_a.toNat rmZ0).2).1)) < (o16_a.length : Int))) (chk (decide (0 ≤ (r0.2.2.1.getD t21_a.toNat rmZ0).1)) (chk (decide (0 ≤ w64 (r0.1 + (((r0.2.2.1.getD t21_a.toNat rmZ0).2).1)) ∧ w64 (r0.1 + (((r0.2.2.1.getD t21_a.toNat rmZ0).2).1)) < (o16_a.length : Int))) ((R28_0 N m (Sl28a r0 zo (w64 (t21_a + 1)) (o16_a.set ((w64 (r0.1 + (((r0.2.2.1.getD t21_a.toNat rmZ0).2).1))).toNat) (bOr .u16 (o16_a.getD ((w64 (r0.1 + (((r0.2.2.1.getD t21_a.toNat rmZ0).2).1))).toNat) (0 : Int)) (IntKind.wrap .u16 ((1 : Int) * 2 ^ min (Int.toNat ((r0.2.2.1.getD t21_a.toNat rmZ0).1)) 16))))))))))
   ((R28_0 N m (Sl28a r0 zo (w64 (t21_a + 1)) o16_a))))
   ((R28_0 N m (Sl28a r0 zo (w64 (t21_a + 1)) o16_a))))))
   (some (r0, (o16_a, ()))) := by kernel_rfl
theorem ql28a (N : Nat) (r0 : Int × Int × List rmZ1 × Unit) (zo : Int) : ∀ (m : Nat) (t21_a : Int) (o16_a : List Int), R28_0 N m (Sl28a r0 zo t21_a o16_a) = l28a N r0 zo m t21_a o16_a
        | 0, _, _ => rfl
        | m + 1, t21_a, o16_a => by rw [wl28a]; simp only [l28a, ql28a N r0 zo m]
def m28 (N : Nat) (r0 : Int × Int × List rmZ1 × Unit) (zo : Int) : Option (rmZ4 × List Int × Unit) :=
   chk (mkOk (w64 (r0.1 + r0.2.1)) (w64 (r0.1 + r0.2.1)) 2) ((l28a N r0 zo N (0 : Int) (List.replicate ((w64 (r0.1 + r0.2.1)).toNat) (0 : Int))))
theorem wm28 (N : Nat) (r0 : Int × Int × List rmZ1 × Unit) (zo : Int) : callF (E28) lv28 N en28 c28 (resOf Try.f28) 67 [.dv rmZ2 r0, .dv (.int .i64) zo] [] dec28 = chk (mkOk (w64 (r0.1 + r0.2.1)) (w64 (r0.1 + r0.2.1)) 2) ((R28_0 N N (Sl28a r0 zo (0 : Int) (List.replicate ((w64 (r0.1 + r0.2.1)).toNat) (0 : Int))))) := by kernel_rfl
theorem k28 (N : Nat) (r0 : Int × Int × List rmZ1 × Unit) (zo : Int) : callF (E28) lv28 N en28 c28 (resOf Try.f28) 67 [.dv rmZ2 r0, .dv (.int .i64) zo] [] dec28 = m28 N r0 zo := by rw [wm28]; simp only [m28, ql28a]
theorem ok28 (a : rmZ4 → Int → Option (rmZ4 × List Int × Unit)) (h : ∀ r0 zo r, a r0 zo = some r → (∃ N, m28 N r0 zo = some r)) : FnOk Try.prog 28 (F28 a) := by
 intro args Of x hx
 simp only [F28] at hx
 split at hx
 ·rename_i r0 zo
  obtain ⟨N, hN⟩ := h _ _ _ hx
  refine lifted (L := []) (rc := (fun i => ([(5, [some rmZ2, none]), (17, [some rmZ2, none])] : List (Nat × List (Option DT))).lookup i)) (fz := nfz) (fn := Try.f28) (by kernel_rfl) (by kernel_rfl) (by kernel_rfl) (by kernel_rfl) rfl ?_ ((k28 N _ _).trans hN) ?_
  ·intro p hp; cases hp
  ·intro l o hd
   simp only [dec28] at hd
   split at hd
   ·obtain rfl := oij hd; exact ⟨rfl, rfl⟩
   ·cases hd
 ·cases hx
def E38 : Env := mkE TI TY [] nrc nfz
noncomputable def c38 : Code := bodyOf Try.f38
def lv38 : Nat → Option Norm := norms []
def en38 : End := ⟨[], ⟨[10], [], [], []⟩⟩
def dec38 (l : List TV) (o : List (Nat × TO)) : Option (Bool) := match l, o with | [.dv (.bool) x0], [] => some (x0) | _, _ => none
def m38 (N : Nat) (s0 : Int) (i1 : Int) : Option (Bool) :=
   chk (decide (0 ≤ i1)) (some ((bAnd .u16 (Int.fdiv s0 (2 ^ min (Int.toNat i1) 16)) (1 : Int)) == (1 : Int)))
theorem k38 (N : Nat) (s0 : Int) (i1 : Int) : callF (E38) lv38 N en38 c38 (resOf Try.f38) 8 [.dv (.int .u16) s0, .dv (.int .i64) i1] [] dec38 = m38 N s0 i1 := by kernel_rfl
theorem ok38 (a : Int → Int → Option (Bool)) (h : ∀ s0 i1 r, a s0 i1 = some r → (∃ N, m38 N s0 i1 = some r)) : FnOk Try.prog 38 (F38 a) := by
 intro args Of x hx
 simp only [F38] at hx
 split at hx
 ·rename_i s0 i1
  obtain ⟨N, hN⟩ := h _ _ _ hx
  refine lifted (L := []) (rc := nrc) (fz := nfz) (fn := Try.f38) (by kernel_rfl) (by kernel_rfl) (by kernel_rfl) (by kernel_rfl) rfl ?_ ((k38 N _ _).trans hN) ?_
  ·intro p hp; cases hp
  ·intro l o hd
   simp only [dec38] at hd
   split at hd
   ·obtain rfl := oij hd; exact ⟨rfl, rfl⟩
   ·cases hd
 ·cases hx
def E72 (A : RgmT1) : Env := mkE TI TY [(38, F38 A)] nrc nfz
noncomputable def c72 : Code := bodyOf Try.f72
def nm72_0 : Norm := ⟨[2, 5, 12, 13], [2], [], []⟩
def nm72_1 : Norm := ⟨[2, 5, 12, 13, 16, 17, 18], [2], [], []⟩
def lv72 : Nat → Option Norm := norms [(3, nm72_0), (5, nm72_1)]
def en72 : End := ⟨[], ⟨[32], [], [], []⟩⟩
def dec72 (l : List TV) (o : List (Nat × TO)) : Option (Int) := match l, o with | [.dv (.int .u16) x0], [] => some (x0) | _, _ => none
def Sl72b (f0 : rmZ4 × List Int × Unit) (t13_a : Int) (out5_b : Int) (t18_b : Int) : TS := ⟨slots 32 [(2, .ptr 2 0 []), (5, .dv (.int .u16) out5_b), (12, .dv (.int .i64) (f0.2.1.length : Int)), (13, .dv (.int .i64) t13_a), (16, .dv (.sl (.int .u16)) f0.2.1), (17, .dv (.int .i64) (f0.2.1.length : Int)), (18, .dv (.int .i64) t18_b)], [(2, .row (.pair rmZ2 (.pair (.sl (.int .u16)) (.unit))) ([f0] : List (rmZ4 × List Int × Unit)))]⟩
def Sl72a (f0 : rmZ4 × List Int × Unit) (out5_a : Int) (t13_a : Int) : TS := ⟨slots 32 [(2, .ptr 2 0 []), (5, .dv (.int .u16) out5_a), (12, .dv (.int .i64) (f0.2.1.length : Int)), (13, .dv (.int .i64) t13_a)], [(2, .row (.pair rmZ2 (.pair (.sl (.int .u16)) (.unit))) ([f0] : List (rmZ4 × List Int × Unit)))]⟩
noncomputable def K72_0 (A : RgmT1) (N : Nat) : Kont (Int) := kont (E72 A) lv72 N c72 [1, 1, 0, 1, 0] (fin TI en72 (resOf Try.f72) dec72)
noncomputable def R72_0 (A : RgmT1) (N : Nat) (m : Nat) : TS → Option (Int) := loopK (den (E72 A) lv72 N (sub c72 [1, 1, 0, 1, 0, 0])) (TS.norm nm72_0) (K72_0 A N) m
noncomputable def K72_1 (A : RgmT1) (N : Nat) (T72_0 : TS → Option (Int)) : Kont (Int) := kont (E72 A) lv72 N (sub c72 [1, 1, 0, 1, 0, 0]) [1, 1, 0, 0, 1, 0] (kloop (TS.norm nm72_0) (K72_0 A N) T72_0)
noncomputable def R72_1 (A : RgmT1) (N : Nat) (T72_0 : TS → Option (Int)) (m : Nat) : TS → Option (Int) := loopK (den (E72 A) lv72 N (sub c72 [1, 1, 0, 1, 0, 0, 1, 1, 0, 0, 1, 0, 0])) (TS.norm nm72_1) (K72_1 A N T72_0) m
def l72b (A : RgmT1) (N : Nat) (f0 : rmZ4 × List Int × Unit) (t13_a : Int) (l72a' : Int → Int → Option (Int)) : Nat → Int → Int → Option (Int)
 | 0, _, _ => none
 | n + 1, out5_b, t18_b => cond (decide (t18_b < (f0.2.1.length : Int))) (chk (decide (0 ≤ t18_b ∧ t18_b < (f0.2.1.length : Int))) ((A out5_b t18_b).bind fun r1 =>
   cond (r1) ((l72b A N f0 t13_a l72a' n (bOr .u16 out5_b (f0.2.1.getD t18_b.toNat 0)) (w64 (t18_b + 1))))
   ((l72b A N f0 t13_a l72a' n out5_b (w64 (t18_b + 1))))))
   ((l72a' out5_b (w64 (t13_a + 1))))
theorem wl72b (A : RgmT1) (N : Nat) (f0 : rmZ4 × List Int × Unit) (t13_a : Int) (T72_0 : TS → Option (Int)) (m : Nat) (out5_b : Int) (t18_b : Int) : R72_1 A N T72_0 (m + 1) (Sl72b f0 t13_a out5_b t18_b) = cond (decide (t18_b < (f0.2.1.length : Int))) (chk (decide (0 ≤ t18_b ∧ t18_b < (f0.2.1.length : Int))) ((A out5_b t18_b).bind fun r1 =>
   cond (r1) ((R72_1 A N T72_0 m (Sl72b f0 t13_a (bOr .u16 out5_b (f0.2.1.getD t18_b.toNat 0)) (w64 (t18_b + 1)))))
   ((R72_1 A N T72_0 m (Sl72b f0 t13_a out5_b (w64 (t18_b + 1)))))))
   ((T72_0 (Sl72a f0 out5_b (w64 (t13_a + 1))))) := by kernel_rfl
theorem ql72b (A : RgmT1) (N : Nat) (f0 : rmZ4 × List Int × Unit) (t13_a : Int) (T72_0 : TS → Option (Int)) : ∀ (m : Nat) (out5_b : Int) (t18_b : Int), R72_1 A N T72_0 m (Sl72b f0 t13_a out5_b t18_b) = l72b A N f0 t13_a (fun y0 y1 => T72_0 (Sl72a f0 y0 y1)) m out5_b t18_b
        | 0, _, _ => rfl
        | m + 1, out5_b, t18_b => by rw [wl72b]; simp only [l72b, ql72b A N f0 t13_a T72_0 m]
def l72a (A : RgmT1) (N : Nat) (f0 : rmZ4 × List Int × Unit) : Nat → Int → Int → Option (Int)
 | 0, _, _ => none
 | n + 1, out5_a, t13_a => cond (decide (t13_a < (f0.2.1.length : Int))) ((l72b A N f0 t13_a (fun y0 y1 => (l72a A N f0 n y0 y1)) N out5_a (0 : Int)))
   (some out5_a)
theorem wl72a (A : RgmT1) (N : Nat) (f0 : rmZ4 × List Int × Unit) (m : Nat) (out5_a : Int) (t13_a : Int) : R72_0 A N (m + 1) (Sl72a f0 out5_a t13_a) = cond (decide (t13_a < (f0.2.1.length : Int))) ((R72_1 A N (R72_0 A N m) N (Sl72b f0 t13_a out5_a (0 : Int))))
   (some out5_a) := by kernel_rfl
theorem ql72a (A : RgmT1) (N : Nat) (f0 : rmZ4 × List Int × Unit) : ∀ (m : Nat) (out5_a : Int) (t13_a : Int), R72_0 A N m (Sl72a f0 out5_a t13_a) = l72a A N f0 m out5_a t13_a
        | 0, _, _ => rfl
        | m + 1, out5_a, t13_a => by rw [wl72a]; simp only [l72a, ql72b, ql72a A N f0 m]
def m72 (A : RgmT1) (N : Nat) (f0 : rmZ4 × List Int × Unit) (i1 : Int) : Option (Int) :=
   chk (decide (0 ≤ i1)) ((l72a A N f0 N (IntKind.wrap .u16 ((1 : Int) * 2 ^ min (Int.toNat i1) 16)) (0 : Int)))
theorem wm72 (A : RgmT1) (N : Nat) (f0 : rmZ4 × List Int × Unit) (i1 : Int) : callF (E72 A) lv72 N en72 c72 (resOf Try.f72) 30 [.dv (.pair rmZ2 (.pair (.sl (.int .u16)) (.unit))) f0, .dv (.int .i64) i1] [] dec72 = chk (decide (0 ≤ i1)) ((R72_0 A N N (Sl72a f0 (IntKind.wrap .u16 ((1 : Int) * 2 ^ min (Int.toNat i1) 16)) (0 : Int)))) := by kernel_rfl
theorem k72 (A : RgmT1) (N : Nat) (f0 : rmZ4 × List Int × Unit) (i1 : Int) : callF (E72 A) lv72 N en72 c72 (resOf Try.f72) 30 [.dv (.pair rmZ2 (.pair (.sl (.int .u16)) (.unit))) f0, .dv (.int .i64) i1] [] dec72 = m72 A N f0 i1 := by rw [wm72]; simp only [m72, ql72a]
theorem ok72 (A : RgmT1) (h38 : FnOk Try.prog 38 (F38 A)) (a : (rmZ4 × List Int × Unit) → Int → Option (Int)) (h : ∀ f0 i1 r, a f0 i1 = some r → (∃ N, m72 A N f0 i1 = some r)) : FnOk Try.prog 72 (F72 a) := by
 intro args Of x hx
 simp only [F72] at hx
 split at hx
 ·rename_i f0 i1
  obtain ⟨N, hN⟩ := h _ _ _ hx
  refine lifted (L := [(38, F38 A)]) (rc := nrc) (fz := nfz) (fn := Try.f72) (by kernel_rfl) (by kernel_rfl) (by kernel_rfl) (by kernel_rfl) rfl ?_ ((k72 A N _ _).trans hN) ?_
  ·intro p hp; simp only [List.mem_cons, List.not_mem_nil, or_false] at hp; rcases hp with rfl; exact h38
  ·intro l o hd
   simp only [dec72] at hd
   split at hd
   ·obtain rfl := oij hd; exact ⟨rfl, rfl⟩
   ·cases hd
 ·cases hx
def E39 (A : RgmT1) (a72 : RgmT2) : Env := mkE TI TY [(38, F38 A), (72, F72 a72)] nrc nfz
noncomputable def c39 : Code := bodyOf Try.f39
def nm39_0 : Norm := ⟨[1, 2, 5, 6, 13, 14], [2], [], []⟩
def lv39 : Nat → Option Norm := norms [(4, nm39_0)]
def en39 : End := ⟨[], ⟨[33], [], [], []⟩⟩
def dec39 (l : List TV) (o : List (Nat × TO)) : Option (Int) := match l, o with | [.dv (.int .u16) x0], [] => some (x0) | _, _ => none
def Sl39a (f0 : rmZ4 × List Int × Unit) (i1 : Int) (r1 : Int) (out5_a : Int) (t14_a : Int) : TS := ⟨slots 33 [(1, .dv (.int .i64) i1), (2, .ptr 2 0 []), (5, .dv (.int .u16) out5_a), (6, .dv (.int .u16) r1), (13, .dv (.int .i64) (f0.2.1.length : Int)), (14, .dv (.int .i64) t14_a)], [(2, .row (.pair rmZ2 (.pair (.sl (.int .u16)) (.unit))) ([f0] : List (rmZ4 × List Int × Unit)))]⟩
noncomputable def K39_0 (A : RgmT1) (a72 : RgmT2) (N : Nat) : Kont (Int) := kont (E39 A a72) lv39 N c39 [1, 1, 1, 0, 1, 0] (fin TI en39 (resOf Try.f39) dec39)
noncomputable def R39_0 (A : RgmT1) (a72 : RgmT2) (N : Nat) (m : Nat) : TS → Option (Int) := loopK (den (E39 A a72) lv39 N (sub c39 [1, 1, 1, 0, 1, 0, 0])) (TS.norm nm39_0) (K39_0 A a72 N) m
def l39a (A : RgmT1) (a72 : RgmT2) (N : Nat) (f0 : rmZ4 × List Int × Unit) (i1 : Int) (r1 : Int) : Nat → Int → Int → Option (Int)
 | 0, _, _ => none
 | n + 1, out5_a, t14_a => cond (decide (t14_a < (f0.2.1.length : Int))) ((A r1 t14_a).bind fun r2 =>
   cond (r2) ((a72 f0 t14_a).bind fun r3 =>
   (A r3 i1).bind fun r4 =>
   cond (r4) (chk (decide (0 ≤ t14_a)) ((l39a A a72 N f0 i1 r1 n (bOr .u16 out5_a (IntKind.wrap .u16 ((1 : Int) * 2 ^ min (Int.toNat t14_a) 16))) (w64 (t14_a + 1)))))
   ((l39a A a72 N f0 i1 r1 n out5_a (w64 (t14_a + 1)))))
   ((l39a A a72 N f0 i1 r1 n out5_a (w64 (t14_a + 1)))))
   (some out5_a)
theorem wl39a (A : RgmT1) (a72 : RgmT2) (N : Nat) (f0 : rmZ4 × List Int × Unit) (i1 : Int) (r1 : Int) (m : Nat) (out5_a : Int) (t14_a : Int) : R39_0 A a72 N (m + 1) (Sl39a f0 i1 r1 out5_a t14_a) = cond (decide (t14_a < (f0.2.1.length : Int))) ((A r1 t14_a).bind fun r2 =>
   cond (r2) ((a72 f0 t14_a).bind fun r3 =>
   (A r3 i1).bind fun r4 =>
   cond (r4) (chk (decide (0 ≤ t14_a)) ((R39_0 A a72 N m (Sl39a f0 i1 r1 (bOr .u16 out5_a (IntKind.wrap .u16 ((1 : Int) * 2 ^ min (Int.toNat t14_a) 16))) (w64 (t14_a + 1))))))
   ((R39_0 A a72 N m (Sl39a f0 i1 r1 out5_a (w64 (t14_a + 1))))))
   ((R39_0 A a72 N m (Sl39a f0 i1 r1 out5_a (w64 (t14_a + 1))))))
   (some out5_a) := by kernel_rfl
theorem ql39a (A : RgmT1) (a72 : RgmT2) (N : Nat) (f0 : rmZ4 × List Int × Unit) (i1 : Int) (r1 : Int) : ∀ (m : Nat) (out5_a : Int) (t14_a : Int), R39_0 A a72 N m (Sl39a f0 i1 r1 out5_a t14_a) = l39a A a72 N f0 i1 r1 m out5_a t14_a
        | 0, _, _ => rfl
        | m + 1, out5_a, t14_a => by rw [wl39a]; simp only [l39a, ql39a A a72 N f0 i1 r1 m]
def m39 (A : RgmT1) (a72 : RgmT2) (N : Nat) (f0 : rmZ4 × List Int × Unit) (i1 : Int) : Option (Int) :=
   (a72 f0 i1).bind fun r1 =>
   (l39a A a72 N f0 i1 r1 N (0 : Int) (0 : Int))
theorem wm39 (A : RgmT1) (a72 : RgmT2) (N : Nat) (f0 : rmZ4 × List Int × Unit) (i1 : Int) : callF (E39 A a72) lv39 N en39 c39 (resOf Try.f39) 31 [.dv (.pair rmZ2 (.pair (.sl (.int .u16)) (.unit))) f0, .dv (.int .i64) i1] [] dec39 = (a72 f0 i1).bind fun r1 =>
   (R39_0 A a72 N N (Sl39a f0 i1 r1 (0 : Int) (0 : Int))) := by kernel_rfl
theorem k39 (A : RgmT1) (a72 : RgmT2) (N : Nat) (f0 : rmZ4 × List Int × Unit) (i1 : Int) : callF (E39 A a72) lv39 N en39 c39 (resOf Try.f39) 31 [.dv (.pair rmZ2 (.pair (.sl (.int .u16)) (.unit))) f0, .dv (.int .i64) i1] [] dec39 = m39 A a72 N f0 i1 := by rw [wm39]; simp only [m39, ql39a]
theorem ok39 (A : RgmT1) (a72 : RgmT2) (h38 : FnOk Try.prog 38 (F38 A)) (h72 : FnOk Try.prog 72 (F72 a72)) (a : (rmZ4 × List Int × Unit) → Int → Option (Int)) (h : ∀ f0 i1 r, a f0 i1 = some r → (∃ N, m39 A a72 N f0 i1 = some r)) : FnOk Try.prog 39 (F39 a) := by
 intro args Of x hx
 simp only [F39] at hx
 split at hx
 ·rename_i f0 i1
  obtain ⟨N, hN⟩ := h _ _ _ hx
  refine lifted (L := [(38, F38 A), (72, F72 a72)]) (rc := nrc) (fz := nfz) (fn := Try.f39) (by kernel_rfl) (by kernel_rfl) (by kernel_rfl) (by kernel_rfl) rfl ?_ ((k39 A a72 N _ _).trans hN) ?_
  ·intro p hp; simp only [List.mem_cons, List.not_mem_nil, or_false] at hp; rcases hp with rfl | rfl
   ·exact h38
   ·exact h72
  ·intro l o hd
   simp only [dec39] at hd
   split at hd
   ·obtain rfl := oij hd; exact ⟨rfl, rfl⟩
   ·cases hd
 ·cases hx
def E66 : Env := mkE TI TY [] nrc nfz
noncomputable def c66 : Code := bodyOf Try.f66
def lv66 : Nat → Option Norm := norms []
def en66 : End := ⟨[], ⟨[12], [], [], []⟩⟩
def dec66 (l : List TV) (o : List (Nat × TO)) : Option (Int) := match l, o with | [.dv (.int .u16) x0], [] => some (x0) | _, _ => none
def m66 (N : Nat) (f0 : rmZ4 × List Int × Unit) : Option (Int) :=
   chk (decide (0 ≤ w64 (f0.1.1 + f0.1.2.1))) (some (IntKind.wrap .u16 ((IntKind.wrap .u16 ((1 : Int) * 2 ^ min (Int.toNat (w64 (f0.1.1 + f0.1.2.1))) 16)) - (1 : Int))))
theorem k66 (N : Nat) (f0 : rmZ4 × List Int × Unit) : callF (E66) lv66 N en66 c66 (resOf Try.f66) 11 [.dv (.pair rmZ2 (.pair (.sl (.int .u16)) (.unit))) f0] [] dec66 = m66 N f0 := by kernel_rfl
theorem ok66 (a : (rmZ4 × List Int × Unit) → Option (Int)) (h : ∀ f0 r, a f0 = some r → (∃ N, m66 N f0 = some r)) : FnOk Try.prog 66 (F66 a) := by
 intro args Of x hx
 simp only [F66] at hx
 split at hx
 ·rename_i f0
  obtain ⟨N, hN⟩ := h _ _ hx
  refine lifted (L := []) (rc := nrc) (fz := nfz) (fn := Try.f66) (by kernel_rfl) (by kernel_rfl) (by kernel_rfl) (by kernel_rfl) rfl ?_ ((k66 N _).trans hN) ?_
  ·intro p hp; cases hp
  ·intro l o hd
   simp only [dec66] at hd
   split at hd
   ·obtain rfl := oij hd; exact ⟨rfl, rfl⟩
   ·cases hd
 ·cases hx
def E29 (V : RgmT2) (a66 : RgmT3) : Env := mkE TI TY [(39, F39 V), (66, F66 a66)] nrc nfz
noncomputable def c29 : Code := bodyOf Try.f29
def lv29 : Nat → Option Norm := norms []
def en29 : End := ⟨[], ⟨[8], [], [], []⟩⟩
def dec29 (l : List TV) (o : List (Nat × TO)) : Option (Bool) := match l, o with | [.dv (.bool) x0], [] => some (x0) | _, _ => none
def m29 (V : RgmT2) (a66 : RgmT3) (N : Nat) (f0 : rmZ4 × List Int × Unit) : Option (Bool) :=
   (V f0 (0 : Int)).bind fun r1 =>
   (a66 f0).bind fun r2 =>
   some (r1 == r2)
theorem k29 (V : RgmT2) (a66 : RgmT3) (N : Nat) (f0 : rmZ4 × List Int × Unit) : callF (E29 V a66) lv29 N en29 c29 (resOf Try.f29) 7 [.dv (.pair rmZ2 (.pair (.sl (.int .u16)) (.unit))) f0] [] dec29 = m29 V a66 N f0 := by kernel_rfl
theorem ok29 (V : RgmT2) (a66 : RgmT3) (h39 : FnOk Try.prog 39 (F39 V)) (h66 : FnOk Try.prog 66 (F66 a66)) (a : (rmZ4 × List Int × Unit) → Option (Bool)) (h : ∀ f0 r, a f0 = some r → (∃ N, m29 V a66 N f0 = some r)) : FnOk Try.prog 29 (F29 a) := by
 intro args Of x hx
 simp only [F29] at hx
 split at hx
 ·rename_i f0
  obtain ⟨N, hN⟩ := h _ _ hx
  refine lifted (L := [(39, F39 V), (66, F66 a66)]) (rc := nrc) (fz := nfz) (fn := Try.f29) (by kernel_rfl) (by kernel_rfl) (by kernel_rfl) (by kernel_rfl) rfl ?_ ((k29 V a66 N _).trans hN) ?_
  ·intro p hp; simp only [List.mem_cons, List.not_mem_nil, or_false] at hp; rcases hp with rfl | rfl
   ·exact h39
   ·exact h66
  ·intro l o hd
   simp only [dec29] at hd
   split at hd
   ·obtain rfl := oij hd; exact ⟨rfl, rfl⟩
   ·cases hd
 ·cases hx
def E10 (Q : RgmT4) (P : RgmT5) (a29 : RgmT6) : Env := mkE TI TY [(27, F27 Q), (28, F28 P), (29, F29 a29)] nrc nfz
noncomputable def c10 : Code := bodyOf Try.f10
def lv10 : Nat → Option Norm := norms []
def en10 : End := ⟨[], ⟨[13, 14], [], [], []⟩⟩
def dec10 (l : List TV) (o : List (Nat × TO)) : Option (Bool × Int) := match l, o with | [.dv (.bool) x0, .dv (.int .i64) x1], [] => some (x0, x1) | _, _ => none
def m10 (Q : RgmT4) (P : RgmT5) (a29 : RgmT6) (N : Nat) (r0 : Int × Int × List rmZ1 × Unit) : Option (Bool × Int) :=
   (Q r0).bind fun r1 =>
   cond (r1 != (0 : Int)) (some (false, r1))
   ((P r0 (-1 : Int)).bind fun r2 =>
   (a29 r2).bind fun r3 =>
   some (r3, (0 : Int)))
theorem k10 (Q : RgmT4) (P : RgmT5) (a29 : RgmT6) (N : Nat) (r0 : Int × Int × List rmZ1 × Unit) : callF (E10 Q P a29) lv10 N en10 c10 (resOf Try.f10) 12 [.dv rmZ2 r0] [] dec10 = m10 Q P a29 N r0 := by kernel_rfl
theorem ok10 (Q : RgmT4) (P : RgmT5) (a29 : RgmT6) (h27 : FnOk Try.prog 27 (F27 Q)) (h28 : FnOk Try.prog 28 (F28 P)) (h29 : FnOk Try.prog 29 (F29 a29)) (a : rmZ4 → Option (Bool × Int)) (h : ∀ r0 r, a r0 = some r → (∃ N, m10 Q P a29 N r0 = some r)) : FnOk Try.prog 10 (F10 a) := by
 intro args Of x hx
 simp only [F10] at hx
 split at hx
 ·rename_i r0
  obtain ⟨N, hN⟩ := h _ _ hx
  refine lifted (L := [(27, F27 Q), (28, F28 P), (29, F29 a29)]) (rc := nrc) (fz := nfz) (fn := Try.f10) (by kernel_rfl) (by kernel_rfl) (by kernel_rfl) (by kernel_rfl) rfl ?_ ((k10 Q P a29 N _).trans hN) ?_
  ·intro p hp; simp only [List.mem_cons, List.not_mem_nil, or_false] at hp; rcases hp with rfl | rfl | rfl
   ·exact h27
   ·exact h28
   ·exact h29
  ·intro l o hd
   simp only [dec10] at hd
   split at hd
   ·obtain rfl := oij hd; exact ⟨rfl, rfl⟩
   ·cases hd
 ·cases hx
def E11 (B : RgmT7) (P : RgmT5) (a29 : RgmT6) : Env := mkE TI TY [(10, F10 B), (28, F28 P), (29, F29 a29)] nrc nfz
noncomputable def c11 : Code := bodyOf Try.f11
def nm11_0 : Norm := ⟨[1, 22, 23], [1], [(.slot 6, 1006, .int .i64)], []⟩
def lv11 : Nat → Option Norm := norms [(8, nm11_0)]
def en11 : End := ⟨[(37, .sl (.int .i64))], ⟨[37, 38], [], [], []⟩⟩
def dec11 (l : List TV) (o : List (Nat × TO)) : Option (List Int × Int) := match l, o with | [.dv (.sl (.int .i64)) x0, .dv (.int .i64) x1], [] => some (x0, x1) | _, _ => none
def Sl11a (r0 : Int × Int × List rmZ1 × Unit) (t23_a : Int) (out6_a : List Int) : TS := ⟨slots 37 [(1, .ptr 1 0 []), (6, .row 1006), (22, .dv (.int .i64) (r0.2.2.1.length : Int)), (23, .dv (.int .i64) t23_a)], [(1006, .row (.int .i64) out6_a), (1, .row rmZ2 ([r0] : List rmZ4))]⟩
noncomputable def K11_0 (B : RgmT7) (P : RgmT5) (a29 : RgmT6) (N : Nat) : Kont (List Int × Int) := kont (E11 B P a29) lv11 N c11 [1, 1, 1, 1, 0, 1, 0] (fin TI en11 (resOf Try.f11) dec11)
noncomputable def R11_0 (B : RgmT7) (P : RgmT5) (a29 : RgmT6) (N : Nat) (m : Nat) : TS → Option (List Int × Int) := loopK (den (E11 B P a29) lv11 N (sub c11 [1, 1, 1, 1, 0, 1, 0, 0])) (TS.norm nm11_0) (K11_0 B P a29 N) m
def l11a (B : RgmT7) (P : RgmT5) (a29 : RgmT6) (N : Nat) (r0 : Int × Int × List rmZ1 × Unit) : Nat → Int → (List Int) → Option (List Int × Int)
 | 0, _, _ => none
 | n + 1, t23_a, out6_a => cond (decide (t23_a < (r0.2.2.1.length : Int))) ((P r0 t23_a).bind fun r2 =>
   (a29 r2).bind fun r3 =>
   cond (!r3) (chk (small (out6_a.length + 1) 8) ((l11a B P a29 N r0 n (w64 (t23_a + 1)) (out6_a ++ ([t23_a] : List Int)))))
   ((l11a B P a29 N r0 n (w64 (t23_a + 1)) out6_a)))
   (some (out6_a, (0 : Int)))
theorem wl11a (B : RgmT7) (P : RgmT5) (a29 : RgmT6) (N : Nat) (r0 : Int × Int × List rmZ1 × Unit) (m : Nat) (t23_a : Int) (out6_a : List Int) : R11_0 B P a29 N (m + 1) (Sl11a r0 t23_a out6_a) = cond (decide (t23_a < (r0.2.2.1.length : Int))) ((P r0 t23_a).bind fun r2 =>
   (a29 r2).bind fun r3 =>
   cond (!r3) (chk (small (out6_a.length + 1) 8) ((R11_0 B P a29 N m (Sl11a r0 (w64 (t23_a + 1)) (out6_a ++ ([t23_a] : List Int))))))
   ((R11_0 B P a29 N m (Sl11a r0 (w64 (t23_a + 1)) out6_a))))
   (some (out6_a, (0 : Int))) := by kernel_rfl
theorem ql11a (B : RgmT7) (P : RgmT5) (a29 : RgmT6) (N : Nat) (r0 : Int × Int × List rmZ1 × Unit) : ∀ (m : Nat) (t23_a : Int) (out6_a : List Int), R11_0 B P a29 N m (Sl11a r0 t23_a out6_a) = l11a B P a29 N r0 m t23_a out6_a
        | 0, _, _ => rfl
        | m + 1, t23_a, out6_a => by rw [wl11a]; simp only [l11a, ql11a B P a29 N r0 m]
def m11 (B : RgmT7) (P : RgmT5) (a29 : RgmT6) (N : Nat) (r0 : Int × Int × List rmZ1 × Unit) : Option (List Int × Int) :=
   (B r0).bind fun r1 =>
   cond (r1.2 != (0 : Int)) (some (([] : List Int), r1.2))
   (cond (!r1.1) (some (([] : List Int), (22 : Int)))
   ((l11a B P a29 N r0 N (0 : Int) ([] : List Int))))
theorem wm11 (B : RgmT7) (P : RgmT5) (a29 : RgmT6) (N : Nat) (r0 : Int × Int × List rmZ1 × Unit) : callF (E11 B P a29) lv11 N en11 c11 (resOf Try.f11) 36 [.dv rmZ2 r0] [] dec11 = (B r0).bind fun r1 =>
   cond (r1.2 != (0 : Int)) (some (([] : List Int), r1.2))
   (cond (!r1.1) (some (([] : List Int), (22 : Int)))
   ((R11_0 B P a29 N N (Sl11a r0 (0 : Int) ([] : List Int))))) := by kernel_rfl
theorem k11 (B : RgmT7) (P : RgmT5) (a29 : RgmT6) (N : Nat) (r0 : Int × Int × List rmZ1 × Unit) : callF (E11 B P a29) lv11 N en11 c11 (resOf Try.f11) 36 [.dv rmZ2 r0] [] dec11 = m11 B P a29 N r0 := by rw [wm11]; simp only [m11, ql11a]
theorem ok11 (B : RgmT7) (P : RgmT5) (a29 : RgmT6) (h10 : FnOk Try.prog 10 (F10 B)) (h28 : FnOk Try.prog 28 (F28 P)) (h29 : FnOk Try.prog 29 (F29 a29)) (a : rmZ4 → Option (List Int × Int)) (h : ∀ r0 r, a r0 = some r → (∃ N, m11 B P a29 N r0 = some r)) : FnOk Try.prog 11 (F11 a) := by
 intro args Of x hx
 simp only [F11] at hx
 split at hx
 ·rename_i r0
  obtain ⟨N, hN⟩ := h _ _ hx
  refine lifted (L := [(10, F10 B), (28, F28 P), (29, F29 a29)]) (rc := nrc) (fz := nfz) (fn := Try.f11) (by kernel_rfl) (by kernel_rfl) (by kernel_rfl) (by kernel_rfl) rfl ?_ ((k11 B P a29 N _).trans hN) ?_
  ·intro p hp; simp only [List.mem_cons, List.not_mem_nil, or_false] at hp; rcases hp with rfl | rfl | rfl
   ·exact h10
   ·exact h28
   ·exact h29
  ·intro l o hd
   simp only [dec11] at hd
   split at hd
   ·obtain rfl := oij hd; exact ⟨rfl, rfl⟩
   ·cases hd
 ·cases hx
def E6 : Env := mkE TI TY [] nrc nfz
noncomputable def c6 : Code := bodyOf Try.f6
def nm6_0 : Norm := ⟨[0, 1, 6, 7], [], [(.slot 5, 1005, .int .i64)], []⟩
def nm6_1 : Norm := ⟨[1, 8], [], [(.slot 5, 1005, .int .i64), (.slot 6, 1006, .int .i64)], []⟩
def lv6 : Nat → Option Norm := norms [(3, nm6_0), (7, nm6_1)]
def en6 : End := ⟨[(54, .sl (.int .i64))], ⟨[54], [], [], []⟩⟩
def dec6 (l : List TV) (o : List (Nat × TO)) : Option (List Int) := match l, o with | [.dv (.sl (.int .i64)) x0], [] => some (x0) | _, _ => none
def Sl6b (by1 : List Int) (k8_b : Int) (left5_b : List Int) (out6_b : List Int) : TS := ⟨slots 54 [(1, .dv (.sl (.int .u8)) by1), (5, .row 1005), (6, .row 1006), (8, .dv (.int .i64) k8_b)], [(1005, .row (.int .i64) left5_b), (1006, .row (.int .i64) out6_b)]⟩
def Sl6a (n0 : Int) (by1 : List Int) (i7_a : Int) (left5_a : List Int) : TS := ⟨slots 54 [(0, .dv (.int .i64) n0), (1, .dv (.sl (.int .u8)) by1), (5, .row 1005), (6, .nl), (7, .dv (.int .i64) i7_a)], [(1005, .row (.int .i64) left5_a)]⟩
noncomputable def K6_0 (N : Nat) : Kont (List Int) := kont (E6) lv6 N c6 [1, 1, 0, 1, 0] (fin TI en6 (resOf Try.f6) dec6)
noncomputable def R6_0 (N : Nat) (m : Nat) : TS → Option (List Int) := loopK (den (E6) lv6 N (sub c6 [1, 1, 0, 1, 0, 0])) (TS.norm nm6_0) (K6_0 N) m
noncomputable def K6_1 (N : Nat) : Kont (List Int) := kont (E6) lv6 N c6 [1, 1, 1, 0, 1, 0] (fin TI en6 (resOf Try.f6) dec6)
noncomputable def R6_1 (N : Nat) (m : Nat) : TS → Option (List Int) := loopK (den (E6) lv6 N (sub c6 [1, 1, 1, 0, 1, 0, 0])) (TS.norm nm6_1) (K6_1 N) m
def l6b (N : Nat) (by1 : List Int) : Nat → Int → (List Int) → (List Int) → Option (List Int)
 | 0, _, _, _ => none
 | n + 1, k8_b, left5_b, out6_b => cond (decide ((left5_b.length : Int) > (0 : Int))) (cond (decide (k8_b < (by1.length : Int))) (chk (decide (0 ≤ k8_b ∧ k8_b < (by1.length : Int))) (chk (decide ((left5_b.length : Int) ≠ (0 : Int))) (chk (decide (0 ≤ Int.tmod (w64 (by1.getD k8_b.toNat 0)) (left5_b.length : Int) ∧ Int.tmod (w64 (by1.getD k8_b.toNat 0)) (left5_b.length : Int) < (left5_b.length : Int))) (chk (small (out6_b.length + 1) 8) (chk (decide (0 ≤ Int.tmod (w64 (by1.getD k8_b.toNat 0)) (left5_b.length : Int) ∧ Int.tmod (w64 (by1.getD k8_b.toNat 0)) (left5_b.length : Int) ≤ (left5_b.length : Int))) (chk (small (0 + ((left5_b.take ((Int.tmod (w64 (by1.getD k8_b.toNat 0)) (left5_b.length : Int)).toNat)).drop 0).length) 8) (chk (decide (0 ≤ w64 ((Int.tmod (w64 (by1.getD k8_b.toNat 0)) (left5_b.length : Int)) + 1) ∧ w64 ((Int.tmod (w64 (by1.getD k8_b.toNat 0)) (left5_b.length : Int)) + 1) ≤ (left5_b.length : Int))) (chk (small ((([] : List Int) ++ ((left5_b.take ((Int.tmod (w64 (by1.getD k8_b.toNat 0)) (left5_b.length : Int)).toNat)).drop 0)).length + ((left5_b.take left5_b.length).drop ((w64 ((Int.tmod (w64 (by1.getD k8_b.toNat 0)) (left5_b.length : Int)) + 1)).toNat)).length) 8) ((l6b N by1 n (w64 (k8_b + 1)) ((([] : List Int) ++ ((left5_b.take ((Int.tmod (w64 (by1.getD k8_b.toNat 0)) (left5_b.length : Int)).toNat)).drop 0)) ++ ((left5_b.take left5_b.length).drop ((w64 ((Int.tmod (w64 (by1.getD k8_b.toNat 0)) (left5_b.length : Int)) + 1)).toNat))) (out6_b ++ ([left5_b.getD ((Int.tmod (w64 (by1.getD k8_b.toNat 0)) (left5_b.length : Int)).toNat) (0 : Int)] : List Int))))))))))))
   (chk (decide (0 ≤ (0 : Int) ∧ (0 : Int) < (left5_b.length : Int))) (chk (small (out6_b.length + 1) 8) (chk (decide (0 ≤ (0 : Int) ∧ (0 : Int) ≤ (left5_b.length : Int))) (chk (small (0 + ((left5_b.take 0).drop 0).length) 8) (chk (decide (0 ≤ (1 : Int) ∧ (1 : Int) ≤ (left5_b.length : Int))) (chk (small ((([] : List Int) ++ ((left5_b.take 0).drop 0)).length + ((left5_b.take left5_b.length).drop 1).length) 8) ((l6b N by1 n (w64 (k8_b + 1)) ((([] : List Int) ++ ((left5_b.take 0).drop 0)) ++ ((left5_b.take left5_b.length).drop 1)) (out6_b ++ ([left5_b.getD 0 (0 : Int)] : List Int)))))))))))
   (some out6_b)
theorem wl6b (N : Nat) (by1 : List Int) (m : Nat) (k8_b : Int) (left5_b : List Int) (out6_b : List Int) : R6_1 N (m + 1) (Sl6b by1 k8_b left5_b out6_b) = cond (decide ((left5_b.length : Int) > (0 : Int))) (cond (decide (k8_b < (by1.length : Int))) (chk (decide (0 ≤ k8_b ∧ k8_b < (by1.length : Int))) (chk (decide ((left5_b.length : Int) ≠ (0 : Int))) (chk (decide (0 ≤ Int.tmod (w64 (by1.getD k8_b.toNat 0)) (left5_b.length : Int) ∧ Int.tmod (w64 (by1.getD k8_b.toNat 0)) (left5_b.length : Int) < (left5_b.length : Int))) (chk (small (out6_b.length + 1) 8) (chk (decide (0 ≤ Int.tmod (w64 (by1.getD k8_b.toNat 0)) (left5_b.length : Int) ∧ Int.tmod (w64 (by1.getD k8_b.toNat 0)) (left5_b.length : Int) ≤ (left5_b.length : Int))) (chk (small (0 + ((left5_b.take ((Int.tmod (w64 (by1.getD k8_b.toNat 0)) (left5_b.length : Int)).toNat)).drop 0).length) 8) (chk (decide (0 ≤ w64 ((Int.tmod (w64 (by1.getD k8_b.toNat 0)) (left5_b.length : Int)) + 1) ∧ w64 ((Int.tmod (w64 (by1.getD k8_b.toNat 0)) (left5_b.length : Int)) + 1) ≤ (left5_b.length : Int))) (chk (small ((([] : List Int) ++ ((left5_b.take ((Int.tmod (w64 (by1.getD k8_b.toNat 0)) (left5_b.length : Int)).toNat)).drop 0)).length + ((left5_b.take left5_b.length).drop ((w64 ((Int.tmod (w64 (by1.getD k8_b.toNat 0)) (left5_b.length : Int)) + 1)).toNat)).length) 8) ((R6_1 N m (Sl6b by1 (w64 (k8_b + 1)) ((([] : List Int) ++ ((left5_b.take ((Int.tmod (w64 (by1.getD k8_b.toNat 0)) (left5_b.length : Int)).toNat)).drop 0)) ++ ((left5_b.take left5_b.length).drop ((w64 ((Int.tmod (w64 (by1.getD k8_b.toNat 0)) (left5_b.length : Int)) + 1)).toNat))) (out6_b ++ ([left5_b.getD ((Int.tmod (w64 (by1.getD k8_b.toNat 0)) (left5_b.length : Int)).toNat) (0 : Int)] : List Int)))))))))))))
   (chk (decide (0 ≤ (0 : Int) ∧ (0 : Int) < (left5_b.length : Int))) (chk (small (out6_b.length + 1) 8) (chk (decide (0 ≤ (0 : Int) ∧ (0 : Int) ≤ (left5_b.length : Int))) (chk (small (0 + ((left5_b.take 0).drop 0).length) 8) (chk (decide (0 ≤ (1 : Int) ∧ (1 : Int) ≤ (left5_b.length : Int))) (chk (small ((([] : List Int) ++ ((left5_b.take 0).drop 0)).length + ((left5_b.take left5_b.length).drop 1).length) 8) ((R6_1 N m (Sl6b by1 (w64 (k8_b + 1)) ((([] : List Int) ++ ((left5_b.take 0).drop 0)) ++ ((left5_b.take left5_b.length).drop 1)) (out6_b ++ ([left5_b.getD 0 (0 : Int)] : List Int))))))))))))
   (some out6_b) := by kernel_rfl
theorem ql6b (N : Nat) (by1 : List Int) : ∀ (m : Nat) (k8_b : Int) (left5_b : List Int) (out6_b : List Int), R6_1 N m (Sl6b by1 k8_b left5_b out6_b) = l6b N by1 m k8_b left5_b out6_b
        | 0, _, _, _ => rfl
        | m + 1, k8_b, left5_b, out6_b => by rw [wl6b]; simp only [l6b, ql6b N by1 m]
def l6a (N : Nat) (n0 : Int) (by1 : List Int) : Nat → Int → (List Int) → Option (List Int)
 | 0, _, _ => none
 | n + 1, i7_a, left5_a => cond (decide (i7_a < n0)) (chk (small (left5_a.length + 1) 8) ((l6a N n0 by1 n (w64 (i7_a + 1)) (left5_a ++ ([i7_a] : List Int)))))
   ((l6b N by1 N (0 : Int) left5_a ([] : List Int)))
theorem wl6a (N : Nat) (n0 : Int) (by1 : List Int) (m : Nat) (i7_a : Int) (left5_a : List Int) : R6_0 N (m + 1) (Sl6a n0 by1 i7_a left5_a) = cond (decide (i7_a < n0)) (chk (small (left5_a.length + 1) 8) ((R6_0 N m (Sl6a n0 by1 (w64 (i7_a + 1)) (left5_a ++ ([i7_a] : List Int))))))
   ((R6_1 N N (Sl6b by1 (0 : Int) left5_a ([] : List Int)))) := by kernel_rfl
theorem ql6a (N : Nat) (n0 : Int) (by1 : List Int) : ∀ (m : Nat) (i7_a : Int) (left5_a : List Int), R6_0 N m (Sl6a n0 by1 i7_a left5_a) = l6a N n0 by1 m i7_a left5_a
        | 0, _, _ => rfl
        | m + 1, i7_a, left5_a => by rw [wl6a]; simp only [l6a, ql6b, ql6a N n0 by1 m]
def m6 (N : Nat) (n0 : Int) (by1 : List Int) : Option (List Int) :=
   (l6a N n0 by1 N (0 : Int) ([] : List Int))
theorem wm6 (N : Nat) (n0 : Int) (by1 : List Int) : callF (E6) lv6 N en6 c6 (resOf Try.f6) 52 [.dv (.int .i64) n0, .dv (.sl (.int .u8)) by1] [] dec6 = (R6_0 N N (Sl6a n0 by1 (0 : Int) ([] : List Int))) := by kernel_rfl
theorem k6 (N : Nat) (n0 : Int) (by1 : List Int) : callF (E6) lv6 N en6 c6 (resOf Try.f6) 52 [.dv (.int .i64) n0, .dv (.sl (.int .u8)) by1] [] dec6 = m6 N n0 by1 := by rw [wm6]; simp only [m6, ql6a]
theorem ok6 (a : Int → (List Int) → Option (List Int)) (h : ∀ n0 by1 r, a n0 by1 = some r → (∃ N, m6 N n0 by1 = some r)) : FnOk Try.prog 6 (F6 a) := by
 intro args Of x hx
 simp only [F6] at hx
 split at hx
 ·rename_i n0 by1
  obtain ⟨N, hN⟩ := h _ _ _ hx
  refine lifted (L := []) (rc := nrc) (fz := nfz) (fn := Try.f6) (by kernel_rfl) (by kernel_rfl) (by kernel_rfl) (by kernel_rfl) rfl ?_ ((k6 N _ _).trans hN) ?_
  ·intro p hp; cases hp
  ·intro l o hd
   simp only [dec6] at hd
   split at hd
   ·obtain rfl := oij hd; exact ⟨rfl, rfl⟩
   ·cases hd
 ·cases hx
def E12 (Z : RgmT8) : Env := mkE TI TY [(6, F6 Z)] nrc (fun i => ([19] : List Nat).contains i)
noncomputable def c12 : Code := bodyOf Try.f12
def nm12_0 : Norm := ⟨[0, 7, 8, 9, 21, 22], [19], [], []⟩
def nm12_1 : Norm := ⟨[0, 7, 8, 9, 10, 11, 21, 22], [19], [], []⟩
def lv12 : Nat → Option Norm := norms [(4, nm12_0), (7, nm12_1)]
def en12 : End := ⟨[(52, .sl (.sl (.int .i64)))], ⟨[52], [], [], []⟩⟩
def dec12 (l : List TV) (o : List (Nat × TO)) : Option LL := match l, o with | [.dv (.sl (.sl (.int .i64))) x0], [] => some (x0) | _, _ => none
def Sl12b (n0 : Int) (r1 : List Int) (r2 : List Int) (t22_a : Int) (d11_b : Int) (o19_b : LL) : TS := ⟨slots 52 [(0, .dv (.int .i64) n0), (7, .dv (.sl (.int .i64)) r1), (8, .dv (.sl (.int .i64)) r2), (9, .row 19), (10, .dv (.int .i64) t22_a), (11, .dv (.int .i64) d11_b), (21, .dv (.int .i64) ((List.replicate n0.toNat ([] : List Int)).length : Int)), (22, .dv (.int .i64) t22_a)], [(19, .mat (.int .i64) o19_b none)]⟩
def Sl12a (n0 : Int) (r1 : List Int) (r2 : List Int) (t22_a : Int) (o19_a : LL) : TS := ⟨slots 52 [(0, .dv (.int .i64) n0), (7, .dv (.sl (.int .i64)) r1), (8, .dv (.sl (.int .i64)) r2), (9, .row 19), (21, .dv (.int .i64) ((List.replicate n0.toNat ([] : List Int)).length : Int)), (22, .dv (.int .i64) t22_a)], [(19, .mat (.int .i64) o19_a none)]⟩
noncomputable def K12_0 (Z : RgmT8) (N : Nat) : Kont LL := kont (E12 Z) lv12 N c12 [1, 1, 1, 0, 1, 0] (fin TI en12 (resOf Try.f12) dec12)
noncomputable def R12_0 (Z : RgmT8) (N : Nat) (m : Nat) : TS → Option LL := loopK (den (E12 Z) lv12 N (sub c12 [1, 1, 1, 0, 1, 0, 0])) (TS.norm nm12_0) (K12_0 Z N) m
noncomputable def K12_1 (Z : RgmT8) (N : Nat) (T12_0 : TS → Option LL) : Kont LL := kont (E12 Z) lv12 N (sub c12 [1, 1, 1, 0, 1, 0, 0]) [1, 1, 0, 0, 1, 1, 0] (kloop (TS.norm nm12_0) (K12_0 Z N) T12_0)
noncomputable def R12_1 (Z : RgmT8) (N : Nat) (T12_0 : TS → Option LL) (m : Nat) : TS → Option LL := loopK (den (E12 Z) lv12 N (sub c12 [1, 1, 1, 0, 1, 0, 0, 1, 1, 0, 0, 1, 1, 0, 0])) (TS.norm nm12_1) (K12_1 Z N T12_0) m
def l12b (Z : RgmT8) (N : Nat) (n0 : Int) (r1 : List Int) (r2 : List Int) (t22_a : Int) (l12a' : Int → LL → Option LL) : Nat → Int → LL → Option LL
 | 0, _, _ => none
 | n + 1, d11_b, o19_b => cond (decide (d11_b < n0)) (chk (decide (0 ≤ t22_a ∧ t22_a < (o19_b.length : Int))) (chk (decide (0 ≤ t22_a ∧ t22_a < (r1.length : Int))) (chk (decide (n0 ≠ (0 : Int))) (chk (decide (0 ≤ Int.tmod (w64 ((r1.getD t22_a.toNat 0) + d11_b)) n0 ∧ Int.tmod (w64 ((r1.getD t22_a.toNat 0) + d11_b)) n0 < (r2.length : Int))) (chk (small ((o19_b.getD t22_a.toNat ([] : List Int)).length + 1) 8) (chk (decide (0 ≤ t22_a ∧ t22_a < (o19_b.length : Int))) (chk (decide (t22_a.toNat = t22_a.toNat)) ((l12b Z N n0 r1 r2 t22_a l12a' n (w64 (d11_b + 1)) (o19_b.set t22_a.toNat ((o19_b.getD t22_a.toNat ([] : List Int)) ++ ([r2.getD ((Int.tmod (w64 ((r1.getD t22_a.toNat 0) + d11_b)) n0).toNat) (0 : Int)] : List Int))))))))))))
   ((l12a' (w64 (t22_a + 1)) o19_b))
theorem wl12b (Z : RgmT8) (N : Nat) (n0 : Int) (r1 : List Int) (r2 : List Int) (t22_a : Int) (T12_0 : TS → Option LL) (m : Nat) (d11_b : Int) (o19_b : LL) : R12_1 Z N T12_0 (m + 1) (Sl12b n0 r1 r2 t22_a d11_b o19_b) = cond (decide (d11_b < n0)) (chk (decide (0 ≤ t22_a ∧ t22_a < (o19_b.length : Int))) (chk (decide (0 ≤ t22_a ∧ t22_a < (r1.length : Int))) (chk (decide (n0 ≠ (0 : Int))) (chk (decide (0 ≤ Int.tmod (w64 ((r1.getD t22_a.toNat 0) + d11_b)) n0 ∧ Int.tmod (w64 ((r1.getD t22_a.toNat 0) + d11_b)) n0 < (r2.length : Int))) (chk (small ((o19_b.getD t22_a.toNat ([] : List Int)).length + 1) 8) (chk (decide (0 ≤ t22_a ∧ t22_a < (o19_b.length : Int))) (chk (decide (t22_a.toNat = t22_a.toNat)) ((R12_1 Z N T12_0 m (Sl12b n0 r1 r2 t22_a (w64 (d11_b + 1)) (o19_b.set t22_a.toNat ((o19_b.getD t22_a.toNat ([] : List Int)) ++ ([r2.getD ((Int.tmod (w64 ((r1.getD t22_a.toNat 0) + d11_b)) n0).toNat) (0 : Int)] : List Int)))))))))))))
   ((T12_0 (Sl12a n0 r1 r2 (w64 (t22_a + 1)) o19_b))) := by kernel_rfl
theorem ql12b (Z : RgmT8) (N : Nat) (n0 : Int) (r1 : List Int) (r2 : List Int) (t22_a : Int) (T12_0 : TS → Option LL) : ∀ (m : Nat) (d11_b : Int) (o19_b : LL), R12_1 Z N T12_0 m (Sl12b n0 r1 r2 t22_a d11_b o19_b) = l12b Z N n0 r1 r2 t22_a (fun y0 y1 => T12_0 (Sl12a n0 r1 r2 y0 y1)) m d11_b o19_b
        | 0, _, _ => rfl
        | m + 1, d11_b, o19_b => by rw [wl12b]; simp only [l12b, ql12b Z N n0 r1 r2 t22_a T12_0 m]
def l12a (Z : RgmT8) (N : Nat) (n0 : Int) (r1 : List Int) (r2 : List Int) : Nat → Int → LL → Option LL
 | 0, _, _ => none
 | n + 1, t22_a, o19_a => cond (decide (t22_a < ((List.replicate n0.toNat ([] : List Int)).length : Int))) ((l12b Z N n0 r1 r2 t22_a (fun y0 y1 => (l12a Z N n0 r1 r2 n y0 y1)) N (0 : Int) o19_a))
   (some o19_a)
theorem wl12a (Z : RgmT8) (N : Nat) (n0 : Int) (r1 : List Int) (r2 : List Int) (m : Nat) (t22_a : Int) (o19_a : LL) : R12_0 Z N (m + 1) (Sl12a n0 r1 r2 t22_a o19_a) = cond (decide (t22_a < ((List.replicate n0.toNat ([] : List Int)).length : Int))) ((R12_1 Z N (R12_0 Z N m) N (Sl12b n0 r1 r2 t22_a (0 : Int) o19_a)))
   (some o19_a) := by kernel_rfl
theorem ql12a (Z : RgmT8) (N : Nat) (n0 : Int) (r1 : List Int) (r2 : List Int) : ∀ (m : Nat) (t22_a : Int) (o19_a : LL), R12_0 Z N m (Sl12a n0 r1 r2 t22_a o19_a) = l12a Z N n0 r1 r2 m t22_a o19_a
        | 0, _, _ => rfl
        | m + 1, t22_a, o19_a => by rw [wl12a]; simp only [l12a, ql12b, ql12a Z N n0 r1 r2 m]
def m12 (Z : RgmT8) (N : Nat) (n0 : Int) (rows1 : List Int) (zn : List Int) : Option LL :=
   (Z n0 rows1).bind fun r1 =>
   (Z n0 zn).bind fun r2 =>
   chk (mkOk n0 n0 24) ((l12a Z N n0 r1 r2 N (0 : Int) (List.replicate n0.toNat ([] : List Int))))
theorem wm12 (Z : RgmT8) (N : Nat) (n0 : Int) (rows1 : List Int) (zn : List Int) : callF (E12 Z) lv12 N en12 c12 (resOf Try.f12) 49 [.dv (.int .i64) n0, .dv (.sl (.int .u8)) rows1, .dv (.sl (.int .u8)) zn] [] dec12 = (Z n0 rows1).bind fun r1 =>
   (Z n0 zn).bind fun r2 =>
   chk (mkOk n0 n0 24) ((R12_0 Z N N (Sl12a n0 r1 r2 (0 : Int) (List.replicate n0.toNat ([] : List Int))))) := by kernel_rfl
theorem k12 (Z : RgmT8) (N : Nat) (n0 : Int) (rows1 : List Int) (zn : List Int) : callF (E12 Z) lv12 N en12 c12 (resOf Try.f12) 49 [.dv (.int .i64) n0, .dv (.sl (.int .u8)) rows1, .dv (.sl (.int .u8)) zn] [] dec12 = m12 Z N n0 rows1 zn := by rw [wm12]; simp only [m12, ql12a]
theorem ok12 (Z : RgmT8) (h6 : FnOk Try.prog 6 (F6 Z)) (a : Int → (List Int) → (List Int) → Option LL) (h : ∀ n0 rows1 zn r, a n0 rows1 zn = some r → (∃ N, m12 Z N n0 rows1 zn = some r)) : FnOk Try.prog 12 (F12 a) := by
 intro args Of x hx
 simp only [F12] at hx
 split at hx
 ·rename_i n0 rows1 zn
  obtain ⟨N, hN⟩ := h _ _ _ _ hx
  refine lifted (L := [(6, F6 Z)]) (rc := nrc) (fz := (fun i => ([19] : List Nat).contains i)) (fn := Try.f12) (by kernel_rfl) (by kernel_rfl) (by kernel_rfl) (by kernel_rfl) rfl ?_ ((k12 Z N _ _ _).trans hN) ?_
  ·intro p hp; simp only [List.mem_cons, List.not_mem_nil, or_false] at hp; rcases hp with rfl; exact h6
  ·intro l o hd
   simp only [dec12] at hd
   split at hd
   ·obtain rfl := oij hd; exact ⟨rfl, rfl⟩
   ·cases hd
 ·cases hx
def E74 : Env := mkE TI TY [] nrc nfz
noncomputable def c74 : Code := bodyOf Try.f74
def lv74 : Nat → Option Norm := norms []
def en74 : End := ⟨[], ⟨[6], [], [], []⟩⟩
def dec74 (l : List TV) (o : List (Nat × TO)) : Option (Bool) := match l, o with | [.dv (.bool) x0], [] => some (x0) | _, _ => none
def m74 (N : Nat) (b0 : Int × Int × Int × Unit) : Option (Bool) :=
   some (b0.2.2.1 != (0 : Int))
theorem k74 (N : Nat) (b0 : Int × Int × Int × Unit) : callF (E74) lv74 N en74 c74 (resOf Try.f74) 5 [.dv rmZ5 b0] [] dec74 = m74 N b0 := by kernel_rfl
theorem ok74 (a : rmZ1 → Option (Bool)) (h : ∀ b0 r, a b0 = some r → (∃ N, m74 N b0 = some r)) : FnOk Try.prog 74 (F74 a) := by
 intro args Of x hx
 simp only [F74] at hx
 split at hx
 ·rename_i b0
  obtain ⟨N, hN⟩ := h _ _ hx
  refine lifted (L := []) (rc := nrc) (fz := nfz) (fn := Try.f74) (by kernel_rfl) (by kernel_rfl) (by kernel_rfl) (by kernel_rfl) rfl ?_ ((k74 N _).trans hN) ?_
  ·intro p hp; cases hp
  ·intro l o hd
   simp only [dec74] at hd
   split at hd
   ·obtain rfl := oij hd; exact ⟨rfl, rfl⟩
   ·cases hd
 ·cases hx
def E90c74 (a74 : RgmT9) : Env := mkE TI TY [(74, F74 a74)] nrc nfz
noncomputable def c90c74 : Code := bodyOf Try.f90
def nm90c74_0 : Norm := ⟨[0, 1, 7, 8], [], [], []⟩
def lv90c74 : Nat → Option Norm := norms [(2, nm90c74_0)]
def en90c74 : End := ⟨[], ⟨[19], [], [], []⟩⟩
def dec90c74 (l : List TV) (o : List (Nat × TO)) : Option (Int) := match l, o with | [.dv (.int .i64) x0], [] => some (x0) | _, _ => none
def Sl90c74a (s0 : List rmZ1) (t8_a : Int) : TS := ⟨slots 19 [(0, .dv (.sl rmZ5) s0), (1, .fn 74 0 0 fun i => ([] : List TV).getD i .any), (7, .dv (.int .i64) (s0.length : Int)), (8, .dv (.int .i64) t8_a)], []⟩
noncomputable def K90c74_0 (a74 : RgmT9) (N : Nat) : Kont (Int) := kont (E90c74 a74) lv90c74 N c90c74 [1, 0, 1, 0] (fin TI en90c74 (resOf Try.f90) dec90c74)
noncomputable def R90c74_0 (a74 : RgmT9) (N : Nat) (m : Nat) : TS → Option (Int) := loopK (den (E90c74 a74) lv90c74 N (sub c90c74 [1, 0, 1, 0, 0])) (TS.norm nm90c74_0) (K90c74_0 a74 N) m
def l90c74a (a74 : RgmT9) (N : Nat) (s0 : List rmZ1) : Nat → Int → Option (Int)
 | 0, _ => none
 | n + 1, t8_a => cond (decide (t8_a < (s0.length : Int))) (chk (decide (0 ≤ t8_a ∧ t8_a < (s0.length : Int))) ((a74 (s0.getD t8_a.toNat rmZ0)).bind fun r1 =>
   cond (r1) (some t8_a)
   ((l90c74a a74 N s0 n (w64 (t8_a + 1))))))
   (some (-1 : Int))
theorem wl90c74a (a74 : RgmT9) (N : Nat) (s0 : List rmZ1) (m : Nat) (t8_a : Int) : R90c74_0 a74 N (m + 1) (Sl90c74a s0 t8_a) = cond (decide (t8_a < (s0.length : Int))) (chk (decide (0 ≤ t8_a ∧ t8_a < (s0.length : Int))) ((a74 (s0.getD t8_a.toNat rmZ0)).bind fun r1 =>
   cond (r1) (some t8_a)
   ((R90c74_0 a74 N m (Sl90c74a s0 (w64 (t8_a + 1)))))))
   (some (-1 : Int)) := by kernel_rfl
theorem ql90c74a (a74 : RgmT9) (N : Nat) (s0 : List rmZ1) : ∀ (m : Nat) (t8_a : Int), R90c74_0 a74 N m (Sl90c74a s0 t8_a) = l90c74a a74 N s0 m t8_a
        | 0, _ => rfl
        | m + 1, t8_a => by rw [wl90c74a]; simp only [l90c74a, ql90c74a a74 N s0 m]
def m90c74 (a74 : RgmT9) (N : Nat) (s0 : List rmZ1) : Option (Int) :=
   (l90c74a a74 N s0 N (0 : Int))
theorem wm90c74 (a74 : RgmT9) (N : Nat) (s0 : List rmZ1) : callF (E90c74 a74) lv90c74 N en90c74 c90c74 (resOf Try.f90) 17 [.dv (.sl rmZ5) s0, .fn 74 0 0 fun i => ([] : List TV).getD i .any] [] dec90c74 = (R90c74_0 a74 N N (Sl90c74a s0 (0 : Int))) := by kernel_rfl
theorem k90c74 (a74 : RgmT9) (N : Nat) (s0 : List rmZ1) : callF (E90c74 a74) lv90c74 N en90c74 c90c74 (resOf Try.f90) 17 [.dv (.sl rmZ5) s0, .fn 74 0 0 fun i => ([] : List TV).getD i .any] [] dec90c74 = m90c74 a74 N s0 := by rw [wm90c74]; simp only [m90c74, ql90c74a]
theorem ok90c74 (a74 : RgmT9) (h74 : FnOk Try.prog 74 (F74 a74)) (a : (List rmZ1) → Option (Int)) (h : ∀ s0 r, a s0 = some r → (∃ N, m90c74 a74 N s0 = some r)) : FnOk Try.prog 90 (F90c74 a) := by
 intro args Of x hx
 simp only [F90c74] at hx
 split at hx
 ·rename_i s0 f_0 heqc
  have hc0 := congrArg (fun c : List (List TV) => c.getD 0 []) heqc
  obtain ⟨N, hN⟩ := h _ _ hx
  refine HSpec.etaL (args := [.dv (.sl rmZ5) s0, .fn 74 0 0 fun i => ([] : List TV).getD i .any]) (O := []) ⟨TV.sim_refl _, TV.sim_fn hc0, trivial⟩ trivial (lifted (L := [(74, F74 a74)]) (rc := nrc) (fz := nfz) (fn := Try.f90) (by kernel_rfl) (by kernel_rfl) (by kernel_rfl) (by kernel_rfl) rfl ?_ ((k90c74 a74 N _).trans hN) ?_)
  ·intro p hp; simp only [List.mem_cons, List.not_mem_nil, or_false] at hp; rcases hp with rfl; exact h74
  ·intro l o hd
   simp only [dec90c74] at hd
   split at hd
   ·obtain rfl := oij hd; exact ⟨rfl, rfl⟩
   ·cases hd
 ·cases hx
def E73c74 (a90c74 : RgmT10) : Env := mkE TI TY [(90, F90c74 a90c74)] nrc nfz
noncomputable def c73c74 : Code := bodyOf Try.f73
def lv73c74 : Nat → Option Norm := norms []
def en73c74 : End := ⟨[], ⟨[9], [], [], []⟩⟩
def dec73c74 (l : List TV) (o : List (Nat × TO)) : Option (Bool) := match l, o with | [.dv (.bool) x0], [] => some (x0) | _, _ => none
def m73c74 (a90c74 : RgmT10) (N : Nat) (s0 : List rmZ1) : Option (Bool) :=
   (a90c74 s0).bind fun r1 =>
   some (decide (r1 ≥ (0 : Int)))
theorem k73c74 (a90c74 : RgmT10) (N : Nat) (s0 : List rmZ1) : callF (E73c74 a90c74) lv73c74 N en73c74 c73c74 (resOf Try.f73) 7 [.dv (.sl rmZ5) s0, .fn 74 0 0 fun i => ([] : List TV).getD i .any] [] dec73c74 = m73c74 a90c74 N s0 := by kernel_rfl
theorem ok73c74 (a90c74 : RgmT10) (h90c74 : FnOk Try.prog 90 (F90c74 a90c74)) (a : (List rmZ1) → Option (Bool)) (h : ∀ s0 r, a s0 = some r → (∃ N, m73c74 a90c74 N s0 = some r)) : FnOk Try.prog 73 (F73c74 a) := by
 intro args Of x hx
 simp only [F73c74] at hx
 split at hx
 ·rename_i s0 f_0 heqc
  have hc0 := congrArg (fun c : List (List TV) => c.getD 0 []) heqc
  obtain ⟨N, hN⟩ := h _ _ hx
  refine HSpec.etaL (args := [.dv (.sl rmZ5) s0, .fn 74 0 0 fun i => ([] : List TV).getD i .any]) (O := []) ⟨TV.sim_refl _, TV.sim_fn hc0, trivial⟩ trivial (lifted (L := [(90, F90c74 a90c74)]) (rc := nrc) (fz := nfz) (fn := Try.f73) (by kernel_rfl) (by kernel_rfl) (by kernel_rfl) (by kernel_rfl) rfl ?_ ((k73c74 a90c74 N _).trans hN) ?_)
  ·intro p hp; simp only [List.mem_cons, List.not_mem_nil, or_false] at hp; rcases hp with rfl; exact h90c74
  ·intro l o hd
   simp only [dec73c74] at hd
   split at hd
   ·obtain rfl := oij hd; exact ⟨rfl, rfl⟩
   ·cases hd
 ·cases hx
def E40 (Q : RgmT4) (a73c74 : RgmT11) : Env := mkE TI TY [(27, F27 Q), (73, F73c74 a73c74)] nrc nfz
noncomputable def c40 : Code := bodyOf Try.f40
def lv40 : Nat → Option Norm := norms []
def en40 : End := ⟨[], ⟨[14], [], [], []⟩⟩
def dec40 (l : List TV) (o : List (Nat × TO)) : Option (Int) := match l, o with | [.dv (.int .i64) x0], [] => some (x0) | _, _ => none
def m40 (Q : RgmT4) (a73c74 : RgmT11) (N : Nat) (r0 : Int × Int × List rmZ1 × Unit) : Option (Int) :=
   (Q r0).bind fun r1 =>
   cond (r1 == (0 : Int)) ((a73c74 r0.2.2.1).bind fun r2 =>
   cond (r2) (some (10 : Int))
   (some r1))
   (some r1)
theorem k40 (Q : RgmT4) (a73c74 : RgmT11) (N : Nat) (r0 : Int × Int × List rmZ1 × Unit) : callF (E40 Q a73c74) lv40 N en40 c40 (resOf Try.f40) 13 [.dv rmZ2 r0] [] dec40 = m40 Q a73c74 N r0 := by kernel_rfl
theorem ok40 (Q : RgmT4) (a73c74 : RgmT11) (h27 : FnOk Try.prog 27 (F27 Q)) (h73c74 : FnOk Try.prog 73 (F73c74 a73c74)) (a : rmZ4 → Option (Int)) (h : ∀ r0 r, a r0 = some r → (∃ N, m40 Q a73c74 N r0 = some r)) : FnOk Try.prog 40 (F40 a) := by
 intro args Of x hx
 simp only [F40] at hx
 split at hx
 ·rename_i r0
  obtain ⟨N, hN⟩ := h _ _ hx
  refine lifted (L := [(27, F27 Q), (73, F73c74 a73c74)]) (rc := nrc) (fz := nfz) (fn := Try.f40) (by kernel_rfl) (by kernel_rfl) (by kernel_rfl) (by kernel_rfl) rfl ?_ ((k40 Q a73c74 N _).trans hN) ?_
  ·intro p hp; simp only [List.mem_cons, List.not_mem_nil, or_false] at hp; rcases hp with rfl | rfl
   ·exact h27
   ·exact h73c74
  ·intro l o hd
   simp only [dec40] at hd
   split at hd
   ·obtain rfl := oij hd; exact ⟨rfl, rfl⟩
   ·cases hd
 ·cases hx
def E70 : Env := mkE TI TY [] nrc nfz
noncomputable def c70 : Code := bodyOf Try.f70
def lv70 : Nat → Option Norm := norms []
def en70 : End := ⟨[], ⟨[], [], [(.slot 8, 1500, .pair (.int .i64) (.pair (.int .i64) (.pair (.int .i64) (.unit))))], []⟩⟩
def dec70 (l : List TV) (o : List (Nat × TO)) : Option (List (Int × Int × Int × Unit)) := match l, o with | [.row 1500], [(1500, .row (.pair (.int .i64) (.pair (.int .i64) (.pair (.int .i64) (.unit)))) x0)] => some (x0) | _, _ => none
def m70 (N : Nat) (s0 : Option (List rmZ1)) : Option (List rmZ1) :=
   cond (s0.isNone) (some ([] : List rmZ1))
   (chk (small (0 + (s0.getD []).length) 24) (some (([] : List rmZ1) ++ (s0.getD []))))
theorem k70 (N : Nat) (s0 : Option (List rmZ1)) : callF (E70) lv70 N en70 c70 (resOf Try.f70) 7 [.dv (.nsl rmZ5) s0] [] dec70 = m70 N s0 := by kernel_rfl
theorem ok70 (a : (Option (List rmZ1)) → Option (List rmZ1)) (h : ∀ s0 r, a s0 = some r → (∃ N, m70 N s0 = some r)) : FnOk Try.prog 70 (F70 a) := by
 intro args Of x hx
 simp only [F70] at hx
 split at hx
 ·rename_i s0
  obtain ⟨N, hN⟩ := h _ _ hx
  refine lifted (L := []) (rc := nrc) (fz := nfz) (fn := Try.f70) (by kernel_rfl) (by kernel_rfl) (by kernel_rfl) (by kernel_rfl) rfl ?_ ((k70 N _).trans hN) ?_
  ·intro p hp; cases hp
  ·intro l o hd
   simp only [dec70] at hd
   split at hd
   ·obtain rfl := oij hd; exact ⟨rfl, rfl⟩
   ·cases hd
 ·cases hx
def E28c : Env := mkE TI TY [] (fun i => ([(5, [some (.int .i64), some (.int .i64), none, none]), (17, [some (.int .i64), some (.int .i64), none, none]), (10, [some (.int .i64), some (.int .i64), none]), (4, [some (.int .i64), some (.int .i64), none, none]), (68, [some (.int .i64), some (.int .i64), none, none])] : List (Nat × List (Option DT))).lookup i) nfz
noncomputable def c28c : Code := bodyOf Try.f28
def nm28c_0 : Norm := ⟨[1, 2, 4, 5, 19, 20, 21], [2, 4, 5, 9000, 16], [], []⟩
def lv28c : Nat → Option Norm := norms [(3, nm28c_0)]
def en28c : End := ⟨[], ⟨[69], [9000, 16], [], []⟩⟩
def dec28c (l : List TV) (o : List (Nat × TO)) : Option (Int × Int × List (Int × Int × Int × Unit) × List Int) := match l, o, capsOf l o with | [.st 4 _], [(9000, .row (.pair (.int .i64) (.pair (.int .i64) (.pair (.int .i64) (.unit)))) x2), (16, .row (.int .u16) x3)], [[.dv (.int .i64) x0, .dv (.int .i64) x1, .row 9000, .row 16]] => some (x0, x1, x2, x3) | _, _, _ => none
def Sl28ca (p0 : Int) (p1 : Int) (zo : Int) (p3 : List rmZ1) (t21_a : Int) (o16_a : List Int) : TS := ⟨slots 69 [(1, .dv (.int .i64) zo), (2, .ptr 2 0 []), (4, .ptr 4 0 []), (5, .ptr 5 0 []), (19, .row 9000), (20, .dv (.int .i64) (p3.length : Int)), (21, .dv (.int .i64) t21_a)], [(2, .rcd [.dv (.int .i64) p0, .dv (.int .i64) p1, .row 9000]), (4, .rcd [.dv (.int .i64) (0 : Int), .dv (.int .i64) (0 : Int), .nl, .nl]), (5, .rcd [.dv (.int .i64) p0, .dv (.int .i64) p1, .row 9000, .row 16]), (9000, .row rmZ5 p3), (16, .row (.int .u16) o16_a)]⟩
noncomputable def K28c_0 (N : Nat) : Kont (Int × Int × List (Int × Int × Int × Unit) × List Int) := kont (E28c) lv28c N c28c [1, 1, 0, 1, 0] (fin TI en28c (resOf Try.f28) dec28c)
noncomputable def R28c_0 (N : Nat) (m : Nat) : TS → Option (Int × Int × List (Int × Int × Int × Unit) × List Int) := loopK (den (E28c) lv28c N (sub c28c [1, 1, 0, 1, 0, 0])) (TS.norm nm28c_0) (K28c_0 N) m
def l28ca (N : Nat) (p0 : Int) (p1 : Int) (zo : Int) (p3 : List rmZ1) : Nat → Int → (List Int) → Option (Int × Int × List rmZ1 × List Int)
 | 0, _, _ => none
 | n + 1, t21_a, o16_a => cond (decide (t21_a < (p3.length : Int))) (chk (decide (0 ≤ t21_a ∧ t21_a < (p3.length : Int))) (cond (t21_a != zo) (cond (((((p3.getD t21_a.toNat rmZ0).2).2).1) != (2 : Int)) (chk (decide (0 ≤ (p3.getD t21_a.toNat rmZ0).1 ∧ (p3.getD t21_a.toNat rmZ0).1 < (o16_a.length : Int))) (chk (decide (0 ≤ w64 (p0 + (((p3.getD t21_a.toNat rmZ0).2).1)))) (chk (decide (0 ≤ (p3.getD t21_a.toNat rmZ0).1 ∧ (p3.getD t21_a.toNat rmZ0).1 < (o16_a.length : Int))) (cond (t21_a != zo) (cond (((((p3.getD t21_a.toNat rmZ0).2).2).1) != (1 : Int)) (chk (decide (0 ≤ w64 (p0 + (((p3.getD t21_a.toNat rmZ0).2).1)) ∧ w64 (p0 + (((p3.getD t21_a.toNat rmZ0).2).1)) < ((o16_a.set (((p3.getD t21_a.toNat rmZ0).1).toNat) (bOr .u16 (o16_a.getD (((p3.getD t21_a.toNat rmZ0).1).toNat) (0 : Int)) (IntKind.wrap .u16 ((1 : Int) * 2 ^ min (Int.toNat (w64 (p0 + (((p3.getD t21_a.toNat rmZ0).2).1)))) 16)))).length : Int))) (chk (decide (0 ≤ (p3.getD t21_a.toNat rmZ0).1)) (chk (decide (0 ≤ w64 (p0 + (((p3.getD t21_a.toNat rmZ0).2).1)) ∧ w64 (p0 + (((p3.getD t21_a.toNat rmZ0).2).1)) < ((o16_a.set (((p3.getD t21_a.toNat rmZ0).1).toNat) (bOr .u16 (o16_a.getD (((p3.getD t21_a.toNat rmZ0).1).toNat) (0 : Int)) (IntKind.wrap .u16 ((1 : Int) * 2 ^ min (Int.toNat (w64 (p0 + (((p3.getD t21_a.toNat rmZ0).2).1)))) 16)))).length : Int))) ((l28ca N p0 p1 zo p3 n (w64 (t21_a + 1)) ((o16_a.set (((p3.getD t21_a.toNat rmZ0).1).toNat) (bOr .u16 (o16_a.getD (((p3.getD t21_a.toNat rmZ0).1).toNat) (0 : Int)) (IntKind.wrap .u16 ((1 : Int) * 2 ^ min (Int.toNat (w64 (p0 + (((p3.getD t21_a.toNat rmZ0).2).1)))) 16)))).set ((w64 (p0 + (((p3.getD t21_a.toNat rmZ0).2).1))).toNat) (bOr .u16 ((o16_a.set (((p3.getD t21_a.toNat rmZ0).1).toNat) (bOr .u16 (o16_a.getD (((p3.getD t21_a.toNat rmZ0).1).toNat) (0 : Int)) (IntKind.wrap .u16 ((1 : Int) * 2 ^ min (Int.toNat (w64 (p0 + (((p3.getD t21_a.toNat rmZ0).2).1)))) 16)))).getD ((w64 (p0 + (((p3.getD t21_a.toNat rmZ0).2).1))).toNat) (0 : Int)) (IntKind.wrap .u16 ((1 : Int) * 2 ^ min (Int.toNat ((p3.getD t21_a.toNat rmZ0).1)) 16)))))))))
   ((l28ca N p0 p1 zo p3 n (w64 (t21_a + 1)) (o16_a.set (((p3.getD t21_a.toNat rmZ0).1).toNat) (bOr .u16 (o16_a.getD (((p3.getD t21_a.toNat rmZ0).1).toNat) (0 : Int)) (IntKind.wrap .u16 ((1 : Int) * 2 ^ min (Int.toNat (w64 (p0 + (((p3.getD t21_a.toNat rmZ0).2).1)))) 16)))))))
   ((l28ca N p0 p1 zo p3 n (w64 (t21_a + 1)) (o16_a.set (((p3.getD t21_a.toNat rmZ0).1).toNat) (bOr .u16 (o16_a.getD (((p3.getD t21_a.toNat rmZ0).1).toNat) (0 : Int)) (IntKind.wrap .u16 ((1 : Int) * 2 ^ min (Int.toNat (w64 (p0 + (((p3.getD t21_a.toNat rmZ0).2).1)))) 16))))))))))
   (cond (t21_a != zo) (cond (((((p3.getD t21_a.toNat rmZ0).2).2).1) != (1 : Int)) (chk (decide (0 ≤ w64 (p0 + (((p3.getD t21_a.toNat rmZ0).2).1)) ∧ w64 (p0 + (((p3.getD t21_a.toNat rmZ0).2).1)) < (o16_a.length : Int))) (chk (decide (0 ≤ (p3.getD t21_a.toNat rmZ0).1)) (chk (decide (0 ≤ w64 (p0 + (((p3.getD t21_a.toNat rmZ0).2).1)) ∧ w64 (p0 + (((p3.getD t21_a.toNat rmZ0).2).1)) < (o16_a.length : Int))) ((l28ca N p0 p1 zo p3 n (w64 (t21_a + 1)) (o16_a.set ((w64 (p0 + (((p3.getD t21_a.toNat rmZ0).2).1))).toNat) (bOr .u16 (o16_a.getD ((w64 (p0 + (((p3.getD t21_a.toNat rmZ0).2).1))).toNat) (0 : Int)) (IntKind.wrap .u16 ((1 : Int) * 2 ^ min (Int.toNat ((p3.getD t21_a.toNat rmZ0).1)) 16)))))))))
   ((l28ca N p0 p1 zo p3 n (w64 (t21_a + 1)) o16_a)))
   ((l28ca N p0 p1 zo p3 n (w64 (t21_a + 1)) o16_a))))
   (cond (t21_a != zo) (cond (((((p3.getD t21_a.toNat rmZ0).2).2).1) != (1 : Int)) (chk (decide (0 ≤ w64 (p0 + (((p3.getD t21_a.toNat rmZ0).2).1)) ∧ w64 (p0 + (((p3.getD t21_a.toNat rmZ0).2).1)) < (o16_a.length : Int))) (chk (decide (0 ≤ (p3.getD t21_a.toNat rmZ0).1)) (chk (decide (0 ≤ w64 (p0 + (((p3.getD t21_a.toNat rmZ0).2).1)) ∧ w64 (p0 + (((p3.getD t21_a.toNat rmZ0).2).1)) < (o16_a.length : Int))) ((l28ca N p0 p1 zo p3 n (w64 (t21_a + 1)) (o16_a.set ((w64 (p0 + (((p3.getD t21_a.toNat rmZ0).2).1))).toNat) (bOr .u16 (o16_a.getD ((w64 (p0 + (((p3.getD t21_a.toNat rmZ0).2).1))).toNat) (0 : Int)) (IntKind.wrap .u16 ((1 : Int) * 2 ^ min (Int.toNat ((p3.getD t21_a.toNat rmZ0).1)) 16)))))))))
   ((l28ca N p0 p1 zo p3 n (w64 (t21_a + 1)) o16_a)))
   ((l28ca N p0 p1 zo p3 n (w64 (t21_a + 1)) o16_a)))))
   (some (p0, p1, p3, o16_a))
theorem wl28ca (N : Nat) (p0 : Int) (p1 : Int) (zo : Int) (p3 : List rmZ1) (m : Nat) (t21_a : Int) (o16_a : List Int) : R28c_0 N (m + 1) (Sl28ca p0 p1 zo p3 t21_a o16_a) = cond (decide (t21_a < (p3.length : Int))) (chk (decide (0 ≤ t21_a ∧ t21_a < (p3.length : Int))) (cond (t21_a != zo) (cond (((((p3.getD t21_a.toNat rmZ0).2).2).1) != (2 : Int)) (chk (decide (0 ≤ (p3.getD t21_a.toNat rmZ0).1 ∧ (p3.getD t21_a.toNat rmZ0).1 < (o16_a.length : Int))) (chk (decide (0 ≤ w64 (p0 + (((p3.getD t21_a.toNat rmZ0).2).1)))) (chk (decide (0 ≤ (p3.getD t21_a.toNat rmZ0).1 ∧ (p3.getD t21_a.toNat rmZ0).1 < (o16_a.length : Int))) (cond (t21_a != zo) (cond (((((p3.getD t21_a.toNat rmZ0).2).2).1) != (1 : Int)) (chk (decide (0 ≤ w64 (p0 + (((p3.getD t21_a.toNat rmZ0).2).1)) ∧ w64 (p0 + (((p3.getD t21_a.toNat rmZ0).2).1)) < ((o16_a.set (((p3.getD t21_a.toNat rmZ0).1).toNat) (bOr .u16 (o16_a.getD (((p3.getD t21_a.toNat rmZ0).1).toNat) (0 : Int)) (IntKind.wrap .u16 ((1 : Int) * 2 ^ min (Int.toNat (w64 (p0 + (((p3.getD t21_a.toNat rmZ0).2).1)))) 16)))).length : Int))) (chk (decide (0 ≤ (p3.getD t21_a.toNat rmZ0).1)) (chk (decide (0 ≤ w64 (p0 + (((p3.getD t21_a.toNat rmZ0).2).1)) ∧ w64 (p0 + (((p3.getD t21_a.toNat rmZ0).2).1)) < ((o16_a.set (((p3.getD t21_a.toNat rmZ0).1).toNat) (bOr .u16 (o16_a.getD (((p3.getD t21_a.toNat rmZ0).1).toNat) (0 : Int)) (IntKind.wrap .u16 ((1 : Int) * 2 ^ min (Int.toNat (w64 (p0 + (((p3.getD t21_a.toNat rmZ0).2).1)))) 16)))).length : Int))) ((R28c_0 N m (Sl28ca p0 p1 zo p3 (w64 (t21_a + 1)) ((o16_a.set (((p3.getD t21_a.toNat rmZ0).1).toNat) (bOr .u16 (o16_a.getD (((p3.getD t21_a.toNat rmZ0).1).toNat) (0 : Int)) (IntKind.wrap .u16 ((1 : Int) * 2 ^ min (Int.toNat (w64 (p0 + (((p3.getD t21_a.toNat rmZ0).2).1)))) 16)))).set ((w64 (p0 + (((p3.getD t21_a.toNat rmZ0).2).1))).toNat) (bOr .u16 ((o16_a.set (((p3.getD t21_a.toNat rmZ0).1).toNat) (bOr .u16 (o16_a.getD (((p3.getD t21_a.toNat rmZ0).1).toNat) (0 : Int)) (IntKind.wrap .u16 ((1 : Int) * 2 ^ min (Int.toNat (w64 (p0 + (((p3.getD t21_a.toNat rmZ0).2).1)))) 16)))).getD ((w64 (p0 + (((p3.getD t21_a.toNat rmZ0).2).1))).toNat) (0 : Int)) (IntKind.wrap .u16 ((1 : Int) * 2 ^ min (Int.toNat ((p3.getD t21_a.toNat rmZ0).1)) 16))))))))))
   ((R28c_0 N m (Sl28ca p0 p1 zo p3 (w64 (t21_a + 1)) (o16_a.set (((p3.getD t21_a.toNat rmZ0).1).toNat) (bOr .u16 (o16_a.getD (((p3.getD t21_a.toNat rmZ0).1).toNat) (0 : Int)) (IntKind.wrap .u16 ((1 : Int) * 2 ^ min (Int.toNat (w64 (p0 + (((p3.getD t21_a.toNat rmZ0).2).1)))) 16))))))))
   ((R28c_0 N m (Sl28ca p0 p1 zo p3 (w64 (t21_a + 1)) (o16_a.set (((p3.getD t21_a.toNat rmZ0).1).toNat) (bOr .u16 (o16_a.getD (((p3.getD t21_a.toNat rmZ0).1).toNat) (0 : Int)) (IntKind.wrap .u16 ((1 : Int) * 2 ^ min (Int.toNat (w64 (p0 + (((p3.getD t21_a.toNat rmZ0).2).1)))) 16)))))))))))
   (cond (t21_a != zo) (cond (((((p3.getD t21_a.toNat rmZ0).2).2).1) != (1 : Int)) (chk (decide (0 ≤ w64 (p0 + (((p3.getD t21_a.toNat rmZ0).2).1)) ∧ w64 (p0 + (((p3.getD t21_a.toNat rmZ0).2).1)) < (o16_a.length : Int))) (chk (decide (0 ≤ (p3.getD t21_a.toNat rmZ0).1)) (chk (decide (0 ≤ w64 (p0 + (((p3.getD t21_a.toNat rmZ0).2).1)) ∧ w64 (p0 + (((p3.getD t21_a.toNat rmZ0).2).1)) < (o16_a.length : Int))) ((R28c_0 N m (Sl28ca p0 p1 zo p3 (w64 (t21_a + 1)) (o16_a.set ((w64 (p0 + (((p3.getD t21_a.toNat rmZ0).2).1))).toNat) (bOr .u16 (o16_a.getD ((w64 (p0 + (((p3.getD t21_a.toNat rmZ0).2).1))).toNat) (0 : Int)) (IntKind.wrap .u16 ((1 : Int) * 2 ^ min (Int.toNat ((p3.getD t21_a.toNat rmZ0).1)) 16))))))))))
   ((R28c_0 N m (Sl28ca p0 p1 zo p3 (w64 (t21_a + 1)) o16_a))))
   ((R28c_0 N m (Sl28ca p0 p1 zo p3 (w64 (t21_a + 1)) o16_a)))))
   (cond (t21_a != zo) (cond (((((p3.getD t21_a.toNat rmZ0).2).2).1) != (1 : Int)) (chk (decide (0 ≤ w64 (p0 + (((p3.getD t21_a.toNat rmZ0).2).1)) ∧ w64 (p0 + (((p3.getD t21_a.toNat rmZ0).2).1)) < (o16_a.length : Int))) (chk (decide (0 ≤ (p3.getD t21_a.toNat rmZ0).1)) (chk (decide (0 ≤ w64 (p0 + (((p3.getD t21_a.toNat rmZ0).2).1)) ∧ w64 (p0 + (((p3.getD t21_a.toNat rmZ0).2).1)) < (o16_a.length : Int))) ((R28c_0 N m (Sl28ca p0 p1 zo p3 (w64 (t21_a + 1)) (o16_a.set ((w64 (p0 + (((p3.getD t21_a.toNat rmZ0).2).1))).toNat) (bOr .u16 (o16_a.getD ((w64 (p0 + (((p3.getD t21_a.toNat rmZ0).2).1))).toNat) (0 : Int)) (IntKind.wrap .u16 ((1 : Int) * 2 ^ min (Int.toNat ((p3.getD t21_a.toNat rmZ0).1)) 16))))))))))
   ((R28c_0 N m (Sl28ca p0 p1 zo p3 (w64 (t21_a + 1)) o16_a))))
   ((R28c_0 N m (Sl28ca p0 p1 zo p3 (w64 (t21_a + 1)) o16_a))))))
   (some (p0, p1, p3, o16_a)) := by kernel_rfl
theorem ql28ca (N : Nat) (p0 : Int) (p1 : Int) (zo : Int) (p3 : List rmZ1) : ∀ (m : Nat) (t21_a : Int) (o16_a : List Int), R28c_0 N m (Sl28ca p0 p1 zo p3 t21_a o16_a) = l28ca N p0 p1 zo p3 m t21_a o16_a
        | 0, _, _ => rfl
        | m + 1, t21_a, o16_a => by rw [wl28ca]; simp only [l28ca, ql28ca N p0 p1 zo p3 m]
def m28c (N : Nat) (p0 : Int) (p1 : Int) (zo : Int) (p3 : List rmZ1) : Option (Int × Int × List rmZ1 × List Int) :=
   chk (mkOk (w64 (p0 + p1)) (w64 (p0 + p1)) 2) ((l28ca N p0 p1 zo p3 N (0 : Int) (List.replicate ((w64 (p0 + p1)).toNat) (0 : Int))))
theorem wm28c (N : Nat) (p0 : Int) (p1 : Int) (zo : Int) (p3 : List rmZ1) : callF (E28c) lv28c N en28c c28c (resOf Try.f28) 67 [.st 3 fun i => ([.dv (.int .i64) p0, .dv (.int .i64) p1, .row 9000] : List TV).getD i .any, .dv (.int .i64) zo] [(9000, .row rmZ5 p3)] dec28c = chk (mkOk (w64 (p0 + p1)) (w64 (p0 + p1)) 2) ((R28c_0 N N (Sl28ca p0 p1 zo p3 (0 : Int) (List.replicate ((w64 (p0 + p1)).toNat) (0 : Int))))) := by kernel_rfl
theorem k28c (N : Nat) (p0 : Int) (p1 : Int) (zo : Int) (p3 : List rmZ1) : callF (E28c) lv28c N en28c c28c (resOf Try.f28) 67 [.st 3 fun i => ([.dv (.int .i64) p0, .dv (.int .i64) p1, .row 9000] : List TV).getD i .any, .dv (.int .i64) zo] [(9000, .row rmZ5 p3)] dec28c = m28c N p0 p1 zo p3 := by rw [wm28c]; simp only [m28c, ql28ca]
theorem ok28c (a : Int → Int → Int → (List rmZ1) → Option (Int × Int × List rmZ1 × List Int)) (h : ∀ p0 p1 zo p3 r, a p0 p1 zo p3 = some r → (∃ N, m28c N p0 p1 zo p3 = some r)) : FnOk Try.prog 28 (F28c a) := by
 intro args Of x hx
 simp only [F28c] at hx
 split at hx
 ·rename_i f_0 zo p3 p0 p1 heqc
  have hc0 := congrArg (fun c : List (List TV) => c.getD 0 []) heqc
  obtain ⟨N, hN⟩ := h _ _ _ _ _ hx
  refine HSpec.etaL (args := [.st 3 fun i => ([.dv (.int .i64) p0, .dv (.int .i64) p1, .row 9000] : List TV).getD i .any, .dv (.int .i64) zo]) (O := [(9000, .row rmZ5 p3)]) ⟨TV.sim_st hc0, TV.sim_refl _, trivial⟩ ⟨rfl, TO.sim_refl _, trivial⟩ (liftedS (L := []) (rc := (fun i => ([(5, [some (.int .i64), some (.int .i64), none, none]), (17, [some (.int .i64), some (.int .i64), none, none]), (10, [some (.int .i64), some (.int .i64), none]), (4, [some (.int .i64), some (.int .i64), none, none]), (68, [some (.int .i64), some (.int .i64), none, none])] : List (Nat × List (Option DT))).lookup i)) (fz := nfz) (fn := Try.f28) (by kernel_rfl) (by kernel_rfl) (by kernel_rfl) (by kernel_rfl) rfl ?_ ((k28c N _ _ _ _).trans hN) ?_)
  ·intro p hp; cases hp
  ·intro l o hd
   simp only [dec28c] at hd
   split at hd
   ·rename_i heqd
    have hd0 := congrArg (fun c : List (List TV) => c.getD 0 []) heqd
    obtain rfl := oij hd; exact ⟨TV.sim_symm (TV.sim_st hd0), ⟨rfl, TO.sim_refl _, rfl, TO.sim_refl _, trivial⟩⟩
   ·cases hd
 ·cases hx
def E72c (A : RgmT1) : Env := mkE TI TY [(38, F38 A)] nrc nfz
noncomputable def c72c : Code := bodyOf Try.f72
def nm72c_0 : Norm := ⟨[2, 5, 12, 13], [2, 9000, 9001], [], []⟩
def nm72c_1 : Norm := ⟨[2, 5, 12, 13, 16, 17, 18], [2, 9001, 9000], [], []⟩
def lv72c : Nat → Option Norm := norms [(3, nm72c_0), (5, nm72c_1)]
def en72c : End := ⟨[], ⟨[32], [9000, 9001], [], []⟩⟩
def dec72c (l : List TV) (o : List (Nat × TO)) : Option (Int × List (Int × Int × Int × Unit) × List Int) := match l, o with | [.dv (.int .u16) x0], [(9000, .row (.pair (.int .i64) (.pair (.int .i64) (.pair (.int .i64) (.unit)))) x1), (9001, .row (.int .u16) x2)] => some (x0, x1, x2) | _, _ => none
def Sl72cb (p0 : Int) (p1 : Int) (p3 : List rmZ1) (p4 : List Int) (t13_a : Int) (out5_b : Int) (t18_b : Int) : TS := ⟨slots 32 [(2, .ptr 2 0 []), (5, .dv (.int .u16) out5_b), (12, .dv (.int .i64) (p4.length : Int)), (13, .dv (.int .i64) t13_a), (16, .row 9001), (17, .dv (.int .i64) (p4.length : Int)), (18, .dv (.int .i64) t18_b)], [(2, .rcd [.dv (.int .i64) p0, .dv (.int .i64) p1, .row 9000, .row 9001]), (9001, .row (.int .u16) p4), (9000, .row rmZ5 p3)]⟩
def Sl72ca (p0 : Int) (p1 : Int) (p3 : List rmZ1) (p4 : List Int) (out5_a : Int) (t13_a : Int) : TS := ⟨slots 32 [(2, .ptr 2 0 []), (5, .dv (.int .u16) out5_a), (12, .dv (.int .i64) (p4.length : Int)), (13, .dv (.int .i64) t13_a)], [(2, .rcd [.dv (.int .i64) p0, .dv (.int .i64) p1, .row 9000, .row 9001]), (9000, .row rmZ5 p3), (9001, .row (.int .u16) p4)]⟩
noncomputable def K72c_0 (A : RgmT1) (N : Nat) : Kont (Int × List (Int × Int × Int × Unit) × List Int) := kont (E72c A) lv72c N c72c [1, 1, 0, 1, 0] (fin TI en72c (resOf Try.f72) dec72c)
noncomputable def R72c_0 (A : RgmT1) (N : Nat) (m : Nat) : TS → Option (Int × List (Int × Int × Int × Unit) × List Int) := loopK (den (E72c A) lv72c N (sub c72c [1, 1, 0, 1, 0, 0])) (TS.norm nm72c_0) (K72c_0 A N) m
noncomputable def K72c_1 (A : RgmT1) (N : Nat) (T72c_0 : RgmT12) : Kont (Int × List (Int × Int × Int × Unit) × List Int) := kont (E72c A) lv72c N (sub c72c [1, 1, 0, 1, 0, 0]) [1, 1, 0, 0, 1, 0] (kloop (TS.norm nm72c_0) (K72c_0 A N) T72c_0)
noncomputable def R72c_1 (A : RgmT1) (N : Nat) (T72c_0 : RgmT12) (m : Nat) : TS → Option (Int × List (Int × Int × Int × Unit) × List Int) := loopK (den (E72c A) lv72c N (sub c72c [1, 1, 0, 1, 0, 0, 1, 1, 0, 0, 1, 0, 0])) (TS.norm nm72c_1) (K72c_1 A N T72c_0) m
def l72cb (A : RgmT1) (N : Nat) (p0 : Int) (p1 : Int) (p3 : List rmZ1) (p4 : List Int) (t13_a : Int) (l72ca' : Int → Int → Option (Int × List rmZ1 × List Int)) : Nat → Int → Int → Option (Int × List rmZ1 × List Int)
 | 0, _, _ => none
 | n + 1, out5_b, t18_b => cond (decide (t18_b < (p4.length : Int))) (chk (decide (0 ≤ t18_b ∧ t18_b < (p4.length : Int))) ((A out5_b t18_b).bind fun r1 =>
   cond (r1) ((l72cb A N p0 p1 p3 p4 t13_a l72ca' n (bOr .u16 out5_b (p4.getD t18_b.toNat 0)) (w64 (t18_b + 1))))
   ((l72cb A N p0 p1 p3 p4 t13_a l72ca' n out5_b (w64 (t18_b + 1))))))
   ((l72ca' out5_b (w64 (t13_a + 1))))
theorem wl72cb (A : RgmT1) (N : Nat) (p0 : Int) (p1 : Int) (p3 : List rmZ1) (p4 : List Int) (t13_a : Int) (T72c_0 : RgmT12) (m : Nat) (out5_b : Int) (t18_b : Int) : R72c_1 A N T72c_0 (m + 1) (Sl72cb p0 p1 p3 p4 t13_a out5_b t18_b) = cond (decide (t18_b < (p4.length : Int))) (chk (decide (0 ≤ t18_b ∧ t18_b < (p4.length : Int))) ((A out5_b t18_b).bind fun r1 =>
   cond (r1) ((R72c_1 A N T72c_0 m (Sl72cb p0 p1 p3 p4 t13_a (bOr .u16 out5_b (p4.getD t18_b.toNat 0)) (w64 (t18_b + 1)))))
   ((R72c_1 A N T72c_0 m (Sl72cb p0 p1 p3 p4 t13_a out5_b (w64 (t18_b + 1)))))))
   ((T72c_0 (Sl72ca p0 p1 p3 p4 out5_b (w64 (t13_a + 1))))) := by kernel_rfl
theorem ql72cb (A : RgmT1) (N : Nat) (p0 : Int) (p1 : Int) (p3 : List rmZ1) (p4 : List Int) (t13_a : Int) (T72c_0 : RgmT12) : ∀ (m : Nat) (out5_b : Int) (t18_b : Int), R72c_1 A N T72c_0 m (Sl72cb p0 p1 p3 p4 t13_a out5_b t18_b) = l72cb A N p0 p1 p3 p4 t13_a (fun y0 y1 => T72c_0 (Sl72ca p0 p1 p3 p4 y0 y1)) m out5_b t18_b
        | 0, _, _ => rfl
        | m + 1, out5_b, t18_b => by rw [wl72cb]; simp only [l72cb, ql72cb A N p0 p1 p3 p4 t13_a T72c_0 m]
def l72ca (A : RgmT1) (N : Nat) (p0 : Int) (p1 : Int) (p3 : List rmZ1) (p4 : List Int) : Nat → Int → Int → Option (Int × List rmZ1 × List Int)
 | 0, _, _ => none
 | n + 1, out5_a, t13_a => cond (decide (t13_a < (p4.length : Int))) ((l72cb A N p0 p1 p3 p4 t13_a (fun y0 y1 => (l72ca A N p0 p1 p3 p4 n y0 y1)) N out5_a (0 : Int)))
   (some (out5_a, p3, p4))
theorem wl72ca (A : RgmT1) (N : Nat) (p0 : Int) (p1 : Int) (p3 : List rmZ1) (p4 : List Int) (m : Nat) (out5_a : Int) (t13_a : Int) : R72c_0 A N (m + 1) (Sl72ca p0 p1 p3 p4 out5_a t13_a) = cond (decide (t13_a < (p4.length : Int))) ((R72c_1 A N (R72c_0 A N m) N (Sl72cb p0 p1 p3 p4 t13_a out5_a (0 : Int))))
   (some (out5_a, p3, p4)) := by kernel_rfl
theorem ql72ca (A : RgmT1) (N : Nat) (p0 : Int) (p1 : Int) (p3 : List rmZ1) (p4 : List Int) : ∀ (m : Nat) (out5_a : Int) (t13_a : Int), R72c_0 A N m (Sl72ca p0 p1 p3 p4 out5_a t13_a) = l72ca A N p0 p1 p3 p4 m out5_a t13_a
        | 0, _, _ => rfl
        | m + 1, out5_a, t13_a => by rw [wl72ca]; simp only [l72ca, ql72cb, ql72ca A N p0 p1 p3 p4 m]
def m72c (A : RgmT1) (N : Nat) (p0 : Int) (p1 : Int) (i1 : Int) (p3 : List rmZ1) (p4 : List Int) : Option (Int × List rmZ1 × List Int) :=
   chk (decide (0 ≤ i1)) ((l72ca A N p0 p1 p3 p4 N (IntKind.wrap .u16 ((1 : Int) * 2 ^ min (Int.toNat i1) 16)) (0 : Int)))
theorem wm72c (A : RgmT1) (N : Nat) (p0 : Int) (p1 : Int) (i1 : Int) (p3 : List rmZ1) (p4 : List Int) : callF (E72c A) lv72c N en72c c72c (resOf Try.f72) 30 [.st 4 fun i => ([.dv (.int .i64) p0, .dv (.int .i64) p1, .row 9000, .row 9001] : List TV).getD i .any, .dv (.int .i64) i1] [(9000, .row rmZ5 p3), (9001, .row (.int .u16) p4)] dec72c = chk (decide (0 ≤ i1)) ((R72c_0 A N N (Sl72ca p0 p1 p3 p4 (IntKind.wrap .u16 ((1 : Int) * 2 ^ min (Int.toNat i1) 16)) (0 : Int)))) := by kernel_rfl
theorem k72c (A : RgmT1) (N : Nat) (p0 : Int) (p1 : Int) (i1 : Int) (p3 : List rmZ1) (p4 : List Int) : callF (E72c A) lv72c N en72c c72c (resOf Try.f72) 30 [.st 4 fun i => ([.dv (.int .i64) p0, .dv (.int .i64) p1, .row 9000, .row 9001] : List TV).getD i .any, .dv (.int .i64) i1] [(9000, .row rmZ5 p3), (9001, .row (.int .u16) p4)] dec72c = m72c A N p0 p1 i1 p3 p4 := by rw [wm72c]; simp only [m72c, ql72ca]
theorem ok72c (A : RgmT1) (h38 : FnOk Try.prog 38 (F38 A)) (a : Int → Int → Int → (List rmZ1) → (List Int) → Option (Int × List rmZ1 × List Int)) (h : ∀ p0 p1 i1 p3 p4 r, a p0 p1 i1 p3 p4 = some r → (∃ N, m72c A N p0 p1 i1 p3 p4 = some r)) : FnOk Try.prog 72 (F72c a) := by
 intro args Of x hx
 simp only [F72c] at hx
 split at hx
 ·rename_i f_0 i1 p3 p4 p0 p1 heqc
  have hc0 := congrArg (fun c : List (List TV) => c.getD 0 []) heqc
  obtain ⟨N, hN⟩ := h _ _ _ _ _ _ hx
  refine HSpec.etaL (args := [.st 4 fun i => ([.dv (.int .i64) p0, .dv (.int .i64) p1, .row 9000, .row 9001] : List TV).getD i .any, .dv (.int .i64) i1]) (O := [(9000, .row rmZ5 p3), (9001, .row (.int .u16) p4)]) ⟨TV.sim_st hc0, TV.sim_refl _, trivial⟩ ⟨rfl, TO.sim_refl _, rfl, TO.sim_refl _, trivial⟩ (lifted (L := [(38, F38 A)]) (rc := nrc) (fz := nfz) (fn := Try.f72) (by kernel_rfl) (by kernel_rfl) (by kernel_rfl) (by kernel_rfl) rfl ?_ ((k72c A N _ _ _ _ _).trans hN) ?_)
  ·intro p hp; simp only [List.mem_cons, List.not_mem_nil, or_false] at hp; rcases hp with rfl; exact h38
  ·intro l o hd
   simp only [dec72c] at hd
   split at hd
   ·obtain rfl := oij hd; exact ⟨rfl, rfl⟩
   ·cases hd
 ·cases hx
def E39c (A : RgmT1) (a72c : RgmT13) : Env := mkE TI TY [(38, F38 A), (72, F72c a72c)] (fun i => ([(8, [some (.int .i64), some (.int .i64), none, none]), (21, [some (.int .i64), some (.int .i64), none, none])] : List (Nat × List (Option DT))).lookup i) nfz
noncomputable def c39c : Code := bodyOf Try.f39
def nm39c_0 : Norm := ⟨[1, 2, 5, 6, 13, 14], [2, 9000, 9001], [], []⟩
def lv39c : Nat → Option Norm := norms [(4, nm39c_0)]
def en39c : End := ⟨[], ⟨[33], [9000, 9001], [], []⟩⟩
def dec39c (l : List TV) (o : List (Nat × TO)) : Option (Int × List (Int × Int × Int × Unit) × List Int) := match l, o with | [.dv (.int .u16) x0], [(9000, .row (.pair (.int .i64) (.pair (.int .i64) (.pair (.int .i64) (.unit)))) x1), (9001, .row (.int .u16) x2)] => some (x0, x1, x2) | _, _ => none
def Sl39ca (p0 : Int) (p1 : Int) (i1 : Int) (r1 : Int × List rmZ1 × List Int) (out5_a : Int) (t14_a : Int) (oC_a : RgmT14) (oD_a : List Int) : TS := ⟨slots 33 [(1, .dv (.int .i64) i1), (2, .ptr 2 0 []), (5, .dv (.int .u16) out5_a), (6, .dv (.int .u16) r1.1), (13, .dv (.int .i64) (r1.2.2.length : Int)), (14, .dv (.int .i64) t14_a)], [(2, .rcd [.dv (.int .i64) p0, .dv (.int .i64) p1, .row 9000, .row 9001]), (9000, .row rmZ5 oC_a), (9001, .row (.int .u16) oD_a)]⟩
noncomputable def K39c_0 (A : RgmT1) (a72c : RgmT13) (N : Nat) : Kont (Int × List (Int × Int × Int × Unit) × List Int) := kont (E39c A a72c) lv39c N c39c [1, 1, 1, 0, 1, 0] (fin TI en39c (resOf Try.f39) dec39c)
noncomputable def R39c_0 (A : RgmT1) (a72c : RgmT13) (N : Nat) (m : Nat) : TS → Option (Int × List (Int × Int × Int × Unit) × List Int) := loopK (den (E39c A a72c) lv39c N (sub c39c [1, 1, 1, 0, 1, 0, 0])) (TS.norm nm39c_0) (K39c_0 A a72c N) m
def l39ca (A : RgmT1) (a72c : RgmT13) (N : Nat) (p0 : Int) (p1 : Int) (i1 : Int) (r1 : Int × List rmZ1 × List Int) : Nat → Int → Int → (List rmZ1) → (List Int) → Option (Int × List rmZ1 × List Int)
 | 0, _, _, _, _ => none
 | n + 1, out5_a, t14_a, oC_a, oD_a => cond (decide (t14_a < (r1.2.2.length : Int))) ((A r1.1 t14_a).bind fun r2 =>
   cond (r2) ((a72c p0 p1 t14_a oC_a oD_a).bind fun r3 =>
   (A r3.1 i1).bind fun r4 =>
   cond (r4) (chk (decide (0 ≤ t14_a)) ((l39ca A a72c N p0 p1 i1 r1 n (bOr .u16 out5_a (IntKind.wrap .u16 ((1 : Int) * 2 ^ min (Int.toNat t14_a) 16))) (w64 (t14_a + 1)) r3.2.1 r3.2.2)))
   ((l39ca A a72c N p0 p1 i1 r1 n out5_a (w64 (t14_a + 1)) r3.2.1 r3.2.2)))
   ((l39ca A a72c N p0 p1 i1 r1 n out5_a (w64 (t14_a + 1)) oC_a oD_a)))
   (some (out5_a, oC_a, oD_a))
theorem wl39ca (A : RgmT1) (a72c : RgmT13) (N : Nat) (p0 : Int) (p1 : Int) (i1 : Int) (r1 : Int × List rmZ1 × List Int) (m : Nat) (out5_a : Int) (t14_a : Int) (oC_a : RgmT14) (oD_a : List Int) : R39c_0 A a72c N (m + 1) (Sl39ca p0 p1 i1 r1 out5_a t14_a oC_a oD_a) = cond (decide (t14_a < (r1.2.2.length : Int))) ((A r1.1 t14_a).bind fun r2 =>
   cond (r2) ((a72c p0 p1 t14_a oC_a oD_a).bind fun r3 =>
   (A r3.1 i1).bind fun r4 =>
   cond (r4) (chk (decide (0 ≤ t14_a)) ((R39c_0 A a72c N m (Sl39ca p0 p1 i1 r1 (bOr .u16 out5_a (IntKind.wrap .u16 ((1 : Int) * 2 ^ min (Int.toNat t14_a) 16))) (w64 (t14_a + 1)) r3.2.1 r3.2.2))))
   ((R39c_0 A a72c N m (Sl39ca p0 p1 i1 r1 out5_a (w64 (t14_a + 1)) r3.2.1 r3.2.2))))
   ((R39c_0 A a72c N m (Sl39ca p0 p1 i1 r1 out5_a (w64 (t14_a + 1)) oC_a oD_a))))
   (some (out5_a, oC_a, oD_a)) := by kernel_rfl
theorem ql39ca (A : RgmT1) (a72c : RgmT13) (N : Nat) (p0 : Int) (p1 : Int) (i1 : Int) (r1 : Int × List rmZ1 × List Int) : ∀ (m : Nat) (out5_a : Int) (t14_a : Int) (oC_a : RgmT14) (oD_a : List Int), R39c_0 A a72c N m (Sl39ca p0 p1 i1 r1 out5_a t14_a oC_a oD_a) = l39ca A a72c N p0 p1 i1 r1 m out5_a t14_a oC_a oD_a
        | 0, _, _, _, _ => rfl
        | m + 1, out5_a, t14_a, oC_a, oD_a => by rw [wl39ca]; simp only [l39ca, ql39ca A a72c N p0 p1 i1 r1 m]
def m39c (A : RgmT1) (a72c : RgmT13) (N : Nat) (p0 : Int) (p1 : Int) (i1 : Int) (p3 : List rmZ1) (p4 : List Int) : Option (Int × List rmZ1 × List Int) :=
   (a72c p0 p1 i1 p3 p4).bind fun r1 =>
   (l39ca A a72c N p0 p1 i1 r1 N (0 : Int) (0 : Int) r1.2.1 r1.2.2)
theorem wm39c (A : RgmT1) (a72c : RgmT13) (N : Nat) (p0 : Int) (p1 : Int) (i1 : Int) (p3 : List rmZ1) (p4 : List Int) : callF (E39c A a72c) lv39c N en39c c39c (resOf Try.f39) 31 [.st 4 fun i => ([.dv (.int .i64) p0, .dv (.int .i64) p1, .row 9000, .row 9001] : List TV).getD i .any, .dv (.int .i64) i1] [(9000, .row rmZ5 p3), (9001, .row (.int .u16) p4)] dec39c = (a72c p0 p1 i1 p3 p4).bind fun r1 =>
   (R39c_0 A a72c N N (Sl39ca p0 p1 i1 r1 (0 : Int) (0 : Int) r1.2.1 r1.2.2)) := by kernel_rfl
theorem k39c (A : RgmT1) (a72c : RgmT13) (N : Nat) (p0 : Int) (p1 : Int) (i1 : Int) (p3 : List rmZ1) (p4 : List Int) : callF (E39c A a72c) lv39c N en39c c39c (resOf Try.f39) 31 [.st 4 fun i => ([.dv (.int .i64) p0, .dv (.int .i64) p1, .row 9000, .row 9001] : List TV).getD i .any, .dv (.int .i64) i1] [(9000, .row rmZ5 p3), (9001, .row (.int .u16) p4)] dec39c = m39c A a72c N p0 p1 i1 p3 p4 := by rw [wm39c]; simp only [m39c, ql39ca]
theorem ok39c (A : RgmT1) (a72c : RgmT13) (h38 : FnOk Try.prog 38 (F38 A)) (h72c : FnOk Try.prog 72 (F72c a72c)) (a : Int → Int → Int → (List rmZ1) → (List Int) → Option (Int × List rmZ1 × List Int)) (h : ∀ p0 p1 i1 p3 p4 r, a p0 p1 i1 p3 p4 = some r → (∃ N, m39c A a72c N p0 p1 i1 p3 p4 = some r)) : FnOk Try.prog 39 (F39c a) := by
 intro args Of x hx
 simp only [F39c] at hx
 split at hx
 ·rename_i f_0 i1 p3 p4 p0 p1 heqc
  have hc0 := congrArg (fun c : List (List TV) => c.getD 0 []) heqc
  obtain ⟨N, hN⟩ := h _ _ _ _ _ _ hx
  refine HSpec.etaL (args := [.st 4 fun i => ([.dv (.int .i64) p0, .dv (.int .i64) p1, .row 9000, .row 9001] : List TV).getD i .any, .dv (.int .i64) i1]) (O := [(9000, .row rmZ5 p3), (9001, .row (.int .u16) p4)]) ⟨TV.sim_st hc0, TV.sim_refl _, trivial⟩ ⟨rfl, TO.sim_refl _, rfl, TO.sim_refl _, trivial⟩ (lifted (L := [(38, F38 A), (72, F72c a72c)]) (rc := (fun i => ([(8, [some (.int .i64), some (.int .i64), none, none]), (21, [some (.int .i64), some (.int .i64), none, none])] : List (Nat × List (Option DT))).lookup i)) (fz := nfz) (fn := Try.f39) (by kernel_rfl) (by kernel_rfl) (by kernel_rfl) (by kernel_rfl) rfl ?_ ((k39c A a72c N _ _ _ _ _).trans hN) ?_)
  ·intro p hp; simp only [List.mem_cons, List.not_mem_nil, or_false] at hp; rcases hp with rfl | rfl
   ·exact h38
   ·exact h72c
  ·intro l o hd
   simp only [dec39c] at hd
   split at hd
   ·obtain rfl := oij hd; exact ⟨rfl, rfl⟩
   ·cases hd
 ·cases hx
def E71c (a28c : RgmT15) (A : RgmT1) (a39c : RgmT13) : Env := mkE TI TY [(28, F28c a28c), (38, F38 A), (39, F39c a39c)] (fun i => ([(6, [some (.int .i64), some (.int .i64), none]), (5, [some (.int .i64), some (.int .i64), none, none]), (8, [some (.int .i64), some (.int .i64), none, none])] : List (Nat × List (Option DT))).lookup i) nfz
noncomputable def c71c : Code := bodyOf Try.f71
def lv71c : Nat → Option Norm := norms []
def en71c : End := ⟨[], ⟨[], [9000, 9001, 9002, 9003, 9004], [(.fld 9000 2, 2000, .pair (.int .i64) (.pair (.int .i64) (.pair (.int .i64) (.unit)))), (.fld 9002 0, 2001, .pair (.int .i64) (.pair (.int .i64) (.pair (.int .i64) (.unit))))], []⟩⟩
def dec71c (l : List TV) (o : List (Nat × TO)) : Option (List (Int × Int × Int × Unit) × List (Int × Int × Int × Unit) × Int × Int × List (Int × Int × List (Int × Int × Int × Unit) × Unit)) := match l, o with | [], [(2000, .row (.pair (.int .i64) (.pair (.int .i64) (.pair (.int .i64) (.unit)))) x0), (2001, .row (.pair (.int .i64) (.pair (.int .i64) (.pair (.int .i64) (.unit)))) x1), (9000, .rcd [.dv (.int .i64) x2, .dv (.int .i64) x3, .row 2000]), (9001, .row (.pair (.int .i64) (.pair (.int .i64) (.pair (.sl (.pair (.int .i64) (.pair (.int .i64) (.pair (.int .i64) (.unit))))) (.unit)))) x4), (9002, .rcd [.row 2001]), (9003, .dead), (9004, .dead)] => some (x0, x1, x2, x3, x4) | _, _ => none
def m71c (a28c : RgmT15) (A : RgmT1) (a39c : RgmT13) (N : Nat) (b0 : Int × Int × Int × Unit) (p1 : Int) (p2 : Int) (p3 : List rmZ4) (p4 : List rmZ1) (p5 : List rmZ1) : Option (List rmZ1 × List rmZ1 × Int × Int × List rmZ4) :=
   (a28c p1 p2 (-1 : Int) p4).bind fun r1 =>
   (a39c r1.1 r1.2.1 b0.1 r1.2.2.1 r1.2.2.2).bind fun r2 =>
   (A r2.1 (w64 (((p3.getD 0 rmZ6).1) + b0.2.1))).bind fun r3 =>
   cond (!r3) (chk (small (p5.length + 1) 24) (chk (small (r2.2.1.length + 1) 24) (some (r2.2.1 ++ ([b0] : List rmZ1), p5 ++ ([b0] : List rmZ1), p1, p2, p3))))
   (some (r2.2.1, p5, p1, p2, p3))
theorem k71c (a28c : RgmT15) (A : RgmT1) (a39c : RgmT13) (N : Nat) (b0 : Int × Int × Int × Unit) (p1 : Int) (p2 : Int) (p3 : List rmZ4) (p4 : List rmZ1) (p5 : List rmZ1) : callF (E71c a28c A a39c) lv71c N en71c c71c (resOf Try.f71) 25 [.dv rmZ5 b0, .ptr 9000 0 [], .ptr 9001 0 [], .ptr 9002 0 [0]] [(9000, .rcd [.dv (.int .i64) p1, .dv (.int .i64) p2, .row 9003]), (9001, .row rmZ2 p3), (9002, .rcd [.row 9004]), (9003, .row rmZ5 p4), (9004, .row rmZ5 p5)] dec71c = m71c a28c A a39c N b0 p1 p2 p3 p4 p5 := by kernel_rfl
theorem ok71c (a28c : RgmT15) (A : RgmT1) (a39c : RgmT13) (h28c : FnOk Try.prog 28 (F28c a28c)) (h38 : FnOk Try.prog 38 (F38 A)) (h39c : FnOk Try.prog 39 (F39c a39c)) (a : rmZ1 → Int → Int → (List rmZ4) → (List rmZ1) → (List rmZ1) → Option (List rmZ1 × List rmZ1 × Int × Int × List rmZ4)) (h : ∀ b0 p1 p2 p3 p4 p5 r, a b0 p1 p2 p3 p4 p5 = some r → (∃ N, m71c a28c A a39c N b0 p1 p2 p3 p4 p5 = some r)) : FnOk Try.prog 71 (F71c a) := by
 intro args Of x hx
 simp only [F71c] at hx
 split at hx
 ·rename_i b0 p1 p2 p3 p4 p5
  obtain ⟨N, hN⟩ := h _ _ _ _ _ _ _ hx
  refine lifted (L := [(28, F28c a28c), (38, F38 A), (39, F39c a39c)]) (rc := (fun i => ([(6, [some (.int .i64), some (.int .i64), none]), (5, [some (.int .i64), some (.int .i64), none, none]), (8, [some (.int .i64), some (.int .i64), none, none])] : List (Nat × List (Option DT))).lookup i)) (fz := nfz) (fn := Try.f71) (by kernel_rfl) (by kernel_rfl) (by kernel_rfl) (by kernel_rfl) rfl ?_ ((k71c a28c A a39c N _ _ _ _ _ _).trans hN) ?_
  ·intro p hp; simp only [List.mem_cons, List.not_mem_nil, or_false] at hp; rcases hp with rfl | rfl | rfl
   ·exact h28c
   ·exact h38
   ·exact h39c
  ·intro l o hd
   simp only [dec71c] at hd
   split at hd
   ·obtain rfl := oij hd; exact ⟨rfl, rfl⟩
   ·cases hd
 ·cases hx
def E37 (W : RgmT4) (a70 : RgmT16) (a71c : RgmT17) : Env := mkE TI TY [(40, F40 W), (70, F70 a70), (71, F71c a71c)] (fun i => ([(6, [some (.arr 0 (.pair (.int .i64) (.pair (.int .i64) (.pair (.int .i64) (.unit)))))]), (5, [some (.int .i64), some (.int .i64), none]), (22, [some (.int .i64), some (.int .i64), none])] : List (Nat × List (Option DT))).lookup i) nfz
noncomputable def c37 : Code := bodyOf Try.f37
def nm37_0 : Norm := ⟨[1, 6, 7, 25, 26], [1, 6, 5], [(.fld 5 2, 2100, .pair (.int .i64) (.pair (.int .i64) (.pair (.int .i64) (.unit)))), (.fld 6 0, 2101, .pair (.int .i64) (.pair (.int .i64) (.pair (.int .i64) (.unit))))], []⟩
def nm37_1 : Norm := ⟨[6, 7, 35, 36], [6, 5, 1], [(.fld 5 2, 2100, .pair (.int .i64) (.pair (.int .i64) (.pair (.int .i64) (.unit)))), (.fld 6 0, 2101, .pair (.int .i64) (.pair (.int .i64) (.pair (.int .i64) (.unit))))], []⟩
def lv37 : Nat → Option Norm := norms [(8, nm37_0), (13, nm37_1)]
def en37 : End := ⟨[(45, .sl (.pair (.int .i64) (.pair (.int .i64) (.pair (.int .i64) (.unit)))))], ⟨[45, 46], [], [], []⟩⟩
def dec37 (l : List TV) (o : List (Nat × TO)) : Option (List (Int × Int × Int × Unit) × Int) := match l, o with | [.dv (.sl (.pair (.int .i64) (.pair (.int .i64) (.pair (.int .i64) (.unit))))) x0, .dv (.int .i64) x1], [] => some (x0, x1) | _, _ => none
def Sl37b (o1_a : RgmT18) (t36_b : Int) (oA_b : RgmT14) (oB_b : RgmT14) (o5_bf0 : Int) (o5_bf1 : Int) (o1_b : RgmT18) : TS := ⟨slots 45 [(6, .ptr 6 0 [0]), (7, .fn 71 0 3 fun i => ([.ptr 5 0 [], .ptr 1 0 [], .ptr 6 0 [0]] : List TV).getD i .any), (35, .dv (.int .i64) ((o1_a.getD 0 rmZ6).1)), (36, .dv (.int .i64) t36_b)], [(2100, .row rmZ5 oA_b), (2101, .row rmZ5 oB_b), (6, .rcd [.row 2101]), (5, .rcd [.dv (.int .i64) o5_bf0, .dv (.int .i64) o5_bf1, .row 2100]), (1, .row rmZ2 o1_b)]⟩
def Sl37a (r0 : Int × Int × List rmZ1 × Unit) (t26_a : Int) (oA_a : RgmT14) (oB_a : RgmT14) (o1_a : RgmT18) (o5_af0 : Int) (o5_af1 : Int) : TS := ⟨slots 45 [(1, .ptr 1 0 []), (6, .ptr 6 0 [0]), (7, .fn 71 0 3 fun i => ([.ptr 5 0 [], .ptr 1 0 [], .ptr 6 0 [0]] : List TV).getD i .any), (25, .dv (.int .i64) r0.2.1), (26, .dv (.int .i64) t26_a)], [(2100, .row rmZ5 oA_a), (2101, .row rmZ5 oB_a), (1, .row rmZ2 o1_a), (6, .rcd [.row 2101]), (5, .rcd [.dv (.int .i64) o5_af0, .dv (.int .i64) o5_af1, .row 2100])]⟩
noncomputable def K37_0 (W : RgmT4) (a70 : RgmT16) (a71c : RgmT17) (N : Nat) : Kont (List (Int × Int × Int × Unit) × Int) := kont (E37 W a70 a71c) lv37 N c37 [1, 1, 1, 1, 1, 0, 1, 0] (fin TI en37 (resOf Try.f37) dec37)
noncomputable def R37_0 (W : RgmT4) (a70 : RgmT16) (a71c : RgmT17) (N : Nat) (m : Nat) : TS → Option (List (Int × Int × Int × Unit) × Int) := loopK (den (E37 W a70 a71c) lv37 N (sub c37 [1, 1, 1, 1, 1, 0, 1, 0, 0])) (TS.norm nm37_0) (K37_0 W a70 a71c N) m
noncomputable def K37_1 (W : RgmT4) (a70 : RgmT16) (a71c : RgmT17) (N : Nat) : Kont (List (Int × Int × Int × Unit) × Int) := kont (E37 W a70 a71c) lv37 N c37 [1, 1, 1, 1, 1, 1, 0, 1, 0] (fin TI en37 (resOf Try.f37) dec37)
noncomputable def R37_1 (W : RgmT4) (a70 : RgmT16) (a71c : RgmT17) (N : Nat) (m : Nat) : TS → Option (List (Int × Int × Int × Unit) × Int) := loopK (den (E37 W a70 a71c) lv37 N (sub c37 [1, 1, 1, 1, 1, 1, 0, 1, 0, 0])) (TS.norm nm37_1) (K37_1 W a70 a71c N) m
def l37b (W : RgmT4) (a70 : RgmT16) (a71c : RgmT17) (N : Nat) (o1_a : RgmT18) : Nat → Int → (List rmZ1) → (List rmZ1) → Int → Int → (List rmZ4) → Option (List rmZ1 × Int)
 | 0, _, _, _, _, _, _ => none
 | n + 1, t36_b, oA_b, oB_b, o5_bf0, o5_bf1, o1_b => cond (decide (t36_b < ((o1_a.getD 0 rmZ6).1))) ((a71c (t36_b, ((0 : Int), ((0 : Int), ()))) o5_bf0 o5_bf1 o1_b oA_b oB_b).bind fun r4 =>
   (l37b W a70 a71c N o1_a n (w64 (t36_b + 1)) r4.1 r4.2.1 r4.2.2.1 r4.2.2.2.1 r4.2.2.2.2))
   (some (oB_b, (0 : Int)))
theorem wl37b (W : RgmT4) (a70 : RgmT16) (a71c : RgmT17) (N : Nat) (o1_a : RgmT18) (m : Nat) (t36_b : Int) (oA_b : RgmT14) (oB_b : RgmT14) (o5_bf0 : Int) (o5_bf1 : Int) (o1_b : RgmT18) : R37_1 W a70 a71c N (m + 1) (Sl37b o1_a t36_b oA_b oB_b o5_bf0 o5_bf1 o1_b) = cond (decide (t36_b < ((o1_a.getD 0 rmZ6).1))) ((a71c (t36_b, ((0 : Int), ((0 : Int), ()))) o5_bf0 o5_bf1 o1_b oA_b oB_b).bind fun r4 =>
   (R37_1 W a70 a71c N m (Sl37b o1_a (w64 (t36_b + 1)) r4.1 r4.2.1 r4.2.2.1 r4.2.2.2.1 r4.2.2.2.2)))
   (some (oB_b, (0 : Int))) := by kernel_rfl
theorem ql37b (W : RgmT4) (a70 : RgmT16) (a71c : RgmT17) (N : Nat) (o1_a : RgmT18) : ∀ (m : Nat) (t36_b : Int) (oA_b : RgmT14) (oB_b : RgmT14) (o5_bf0 : Int) (o5_bf1 : Int) (o1_b : RgmT18), R37_1 W a70 a71c N m (Sl37b o1_a t36_b oA_b oB_b o5_bf0 o5_bf1 o1_b) = l37b W a70 a71c N o1_a m t36_b oA_b oB_b o5_bf0 o5_bf1 o1_b
        | 0, _, _, _, _, _, _ => rfl
        | m + 1, t36_b, oA_b, oB_b, o5_bf0, o5_bf1, o1_b => by rw [wl37b]; simp only [l37b, ql37b W a70 a71c N o1_a m]
def l37a (W : RgmT4) (a70 : RgmT16) (a71c : RgmT17) (N : Nat) (r0 : Int × Int × List rmZ1 × Unit) : Nat → Int → (List rmZ1) → (List rmZ1) → (List rmZ4) → Int → Int → Option (List rmZ1 × Int)
 | 0, _, _, _, _, _, _ => none
 | n + 1, t26_a, oA_a, oB_a, o1_a, o5_af0, o5_af1 => cond (decide (t26_a < r0.2.1)) ((a71c ((0 : Int), (t26_a, ((0 : Int), ()))) o5_af0 o5_af1 o1_a oA_a oB_a).bind fun r3 =>
   (l37a W a70 a71c N r0 n (w64 (t26_a + 1)) r3.1 r3.2.1 r3.2.2.2.2 r3.2.2.1 r3.2.2.2.1))
   ((l37b W a70 a71c N o1_a N (0 : Int) oA_a oB_a o5_af0 o5_af1 o1_a))
theorem wl37a (W : RgmT4) (a70 : RgmT16) (a71c : RgmT17) (N : Nat) (r0 : Int × Int × List rmZ1 × Unit) (m : Nat) (t26_a : Int) (oA_a : RgmT14) (oB_a : RgmT14) (o1_a : RgmT18) (o5_af0 : Int) (o5_af1 : Int) : R37_0 W a70 a71c N (m + 1) (Sl37a r0 t26_a oA_a oB_a o1_a o5_af0 o5_af1) = cond (decide (t26_a < r0.2.1)) ((a71c ((0 : Int), (t26_a, ((0 : Int), ()))) o5_af0 o5_af1 o1_a oA_a oB_a).bind fun r3 =>
   (R37_0 W a70 a71c N m (Sl37a r0 (w64 (t26_a + 1)) r3.1 r3.2.1 r3.2.2.2.2 r3.2.2.1 r3.2.2.2.1)))
   ((R37_1 W a70 a71c N N (Sl37b o1_a (0 : Int) oA_a oB_a o5_af0 o5_af1 o1_a))) := by kernel_rfl
theorem ql37a (W : RgmT4) (a70 : RgmT16) (a71c : RgmT17) (N : Nat) (r0 : Int × Int × List rmZ1 × Unit) : ∀ (m : Nat) (t26_a : Int) (oA_a : RgmT14) (oB_a : RgmT14) (o1_a : RgmT18) (o5_af0 : Int) (o5_af1 : Int), R37_0 W a70 a71c N m (Sl37a r0 t26_a oA_a oB_a o1_a o5_af0 o5_af1) = l37a W a70 a71c N r0 m t26_a oA_a oB_a o1_a o5_af0 o5_af1
        | 0, _, _, _, _, _, _ => rfl
        | m + 1, t26_a, oA_a, oB_a, o1_a, o5_af0, o5_af1 => by rw [wl37a]; simp only [l37a, ql37b, ql37a W a70 a71c N r0 m]
def m37 (W : RgmT4) (a70 : RgmT16) (a71c : RgmT17) (N : Nat) (r0 : Int × Int × List rmZ1 × Unit) : Option (List rmZ1 × Int) :=
   (W r0).bind fun r1 =>
   cond (r1 != (0 : Int)) (some (([] : List rmZ1), r1))
   (chk ((decide (0 < r0.2.2.1.length)) && (true)) ((a70 (some r0.2.2.1)).bind fun r2 =>
   (l37a W a70 a71c N r0 N (0 : Int) r2 ([] : List rmZ1) ([r0] : List rmZ4) r0.1 r0.2.1)))
theorem wm37 (W : RgmT4) (a70 : RgmT16) (a71c : RgmT17) (N : Nat) (r0 : Int × Int × List rmZ1 × Unit) : callF (E37 W a70 a71c) lv37 N en37 c37 (resOf Try.f37) 44 [.dv rmZ2 r0] [] dec37 = (W r0).bind fun r1 =>
   cond (r1 != (0 : Int)) (some (([] : List rmZ1), r1))
   (chk ((decide (0 < r0.2.2.1.length)) && (true)) ((a70 (some r0.2.2.1)).bind fun r2 =>
   (R37_0 W a70 a71c N N (Sl37a r0 (0 : Int) r2 ([] : List rmZ1) ([r0] : List rmZ4) r0.1 r0.2.1)))) := by kernel_rfl
theorem k37 (W : RgmT4) (a70 : RgmT16) (a71c : RgmT17) (N : Nat) (r0 : Int × Int × List rmZ1 × Unit) : callF (E37 W a70 a71c) lv37 N en37 c37 (resOf Try.f37) 44 [.dv rmZ2 r0] [] dec37 = m37 W a70 a71c N r0 := by rw [wm37]; simp only [m37, ql37a]
theorem ok37 (W : RgmT4) (a70 : RgmT16) (a71c : RgmT17) (h40 : FnOk Try.prog 40 (F40 W)) (h70 : FnOk Try.prog 70 (F70 a70)) (h71c : FnOk Try.prog 71 (F71c a71c)) (a : rmZ4 → Option (List rmZ1 × Int)) (h : ∀ r0 r, a r0 = some r → (∃ N, m37 W a70 a71c N r0 = some r)) : FnOk Try.prog 37 (F37 a) := by
 intro args Of x hx
 simp only [F37] at hx
 split at hx
 ·rename_i r0
  obtain ⟨N, hN⟩ := h _ _ hx
  refine lifted (L := [(40, F40 W), (70, F70 a70), (71, F71c a71c)]) (rc := (fun i => ([(6, [some (.arr 0 rmZ5)]), (5, [some (.int .i64), some (.int .i64), none]), (22, [some (.int .i64), some (.int .i64), none])] : List (Nat × List (Option DT))).lookup i)) (fz := nfz) (fn := Try.f37) (by kernel_rfl) (by kernel_rfl) (by kernel_rfl) (by kernel_rfl) rfl ?_ ((k37 W a70 a71c N _).trans hN) ?_
  ·intro p hp; simp only [List.mem_cons, List.not_mem_nil, or_false] at hp; rcases hp with rfl | rfl | rfl
   ·exact h40
   ·exact h70
   ·exact h71c
  ·intro l o hd
   simp only [dec37] at hd
   split at hd
   ·obtain rfl := oij hd; exact ⟨rfl, rfl⟩
   ·cases hd
 ·cases hx
def E14 (a37 : RgmT19) : Env := mkE TI TY [(37, F37 a37)] nrc nfz
noncomputable def c14 : Code := bodyOf Try.f14
def lv14 : Nat → Option Norm := norms []
def en14 : End := ⟨[], ⟨[14, 15], [], [], []⟩⟩
def dec14 (l : List TV) (o : List (Nat × TO)) : Option (Int × Int) := match l, o with | [.dv (.int .i64) x0, .dv (.int .i64) x1], [] => some (x0, x1) | _, _ => none
def m14 (a37 : RgmT19) (N : Nat) (r0 : Int × Int × List rmZ1 × Unit) : Option (Int × Int) :=
   (a37 r0).bind fun r1 =>
   some ((r1.1.length : Int), r1.2)
theorem k14 (a37 : RgmT19) (N : Nat) (r0 : Int × Int × List rmZ1 × Unit) : callF (E14 a37) lv14 N en14 c14 (resOf Try.f14) 13 [.dv rmZ2 r0] [] dec14 = m14 a37 N r0 := by kernel_rfl
theorem ok14 (a37 : RgmT19) (h37 : FnOk Try.prog 37 (F37 a37)) (a : rmZ4 → Option (Int × Int)) (h : ∀ r0 r, a r0 = some r → (∃ N, m14 a37 N r0 = some r)) : FnOk Try.prog 14 (F14 a) := by
 intro args Of x hx
 simp only [F14] at hx
 split at hx
 ·rename_i r0
  obtain ⟨N, hN⟩ := h _ _ hx
  refine lifted (L := [(37, F37 a37)]) (rc := nrc) (fz := nfz) (fn := Try.f14) (by kernel_rfl) (by kernel_rfl) (by kernel_rfl) (by kernel_rfl) rfl ?_ ((k14 a37 N _).trans hN) ?_
  ·intro p hp; simp only [List.mem_cons, List.not_mem_nil, or_false] at hp; rcases hp with rfl; exact h37
  ·intro l o hd
   simp only [dec14] at hd
   split at hd
   ·obtain rfl := oij hd; exact ⟨rfl, rfl⟩
   ·cases hd
 ·cases hx
def E15 (Q : RgmT4) (P : RgmT5) (A : RgmT1) (V : RgmT2) : Env := mkE TI TY [(27, F27 Q), (28, F28 P), (38, F38 A), (39, F39 V)] (fun i => ([(10, [none, none])] : List (Nat × List (Option DT))).lookup i) nfz
noncomputable def c15 : Code := bodyOf Try.f15
def nm15_0 : Norm := ⟨[5, 7, 21, 22], [5], [(.slot 6, 1006, .pair (.sl (.int .i64)) (.pair (.sl (.int .i64)) (.unit)))], []⟩
def nm15_1 : Norm := ⟨[5, 6, 7, 9, 10, 21, 22, 36, 37], [5, 1006, 10], [(.fld 10 0, 2100, .int .i64), (.fld 10 1, 2101, .int .i64)], []⟩
def lv15 : Nat → Option Norm := norms [(8, nm15_0), (15, nm15_1)]
def en15 : End := ⟨[(74, .sl (.pair (.sl (.int .i64)) (.pair (.sl (.int .i64)) (.unit))))], ⟨[74, 75], [], [], []⟩⟩
def dec15 (l : List TV) (o : List (Nat × TO)) : Option (List (List Int × List Int × Unit) × Int) := match l, o with | [.dv (.sl (.pair (.sl (.int .i64)) (.pair (.sl (.int .i64)) (.unit)))) x0, .dv (.int .i64) x1], [] => some (x0, x1) | _, _ => none
def Sl15b (r2 : rmZ4 × List Int × Unit) (done7_a : Int) (t22_a : Int) (out6_a : List (List Int × List Int × Unit)) (r4 : Int) (t37_b : Int) (oA_b : List Int) (oB_b : List Int) : TS := ⟨slots 74 [(5, .ptr 5 0 []), (6, .row 1006), (7, .dv (.int .u16) (bOr .u16 done7_a r4)), (9, .dv (.int .u16) r4), (10, .ptr 10 0 []), (21, .dv (.int .i64) (r2.2.1.length : Int)), (22, .dv (.int .i64) t22_a), (36, .dv (.int .i64) (r2.2.1.length : Int)), (37, .dv (.int .i64) t37_b)], [(2100, .row (.int .i64) oA_b), (2101, .row (.int .i64) oB_b), (5, .row (.pair rmZ2 (.pair (.sl (.int .u16)) (.unit))) ([r2] : List (rmZ4 × List Int × Unit))), (1006, .row (.pair (.sl (.int .i64)) (.pair (.sl (.int .i64)) (.unit))) out6_a), (10, .rcd [.row 2100, .row 2101])]⟩
def Sl15a (r2 : rmZ4 × List Int × Unit) (done7_a : Int) (t22_a : Int) (out6_a : List (List Int × List Int × Unit)) : TS := ⟨slots 74 [(5, .ptr 5 0 []), (6, .row 1006), (7, .dv (.int .u16) done7_a), (21, .dv (.int .i64) (r2.2.1.length : Int)), (22, .dv (.int .i64) t22_a)], [(1006, .row (.pair (.sl (.int .i64)) (.pair (.sl (.int .i64)) (.unit))) out6_a), (5, .row (.pair rmZ2 (.pair (.sl (.int .u16)) (.unit))) ([r2] : List (rmZ4 × List Int × Unit)))]⟩
noncomputable def K15_0 (Q : RgmT4) (P : RgmT5) (A : RgmT1) (V : RgmT2) (N : Nat) : Kont (List (List Int × List Int × Unit) × Int) := kont (E15 Q P A V) lv15 N c15 [1, 1, 1, 1, 1, 0, 1, 0] (fin TI en15 (resOf Try.f15) dec15)
noncomputable def R15_0 (Q : RgmT4) (P : RgmT5) (A : RgmT1) (V : RgmT2) (N : Nat) (m : Nat) : TS → Option (List (List Int × List Int × Unit) × Int) := loopK (den (E15 Q P A V) lv15 N (sub c15 [1, 1, 1, 1, 1, 0, 1, 0, 0])) (TS.norm nm15_0) (K15_0 Q P A V N) m
noncomputable def K15_1 (Q : RgmT4) (P : RgmT5) (A : RgmT1) (V : RgmT2) (N : Nat) (T15_0 : RgmT20) : Kont (List (List Int × List Int × Unit) × Int) := kont (E15 Q P A V) lv15 N (sub c15 [1, 1, 1, 1, 1, 0, 1, 0, 0]) [1, 1, 0, 0, 1, 1, 1, 1, 1, 0, 1, 0] (kloop (TS.norm nm15_0) (K15_0 Q P A V N) T15_0)
noncomputable def R15_1 (Q : RgmT4) (P : RgmT5) (A : RgmT1) (V : RgmT2) (N : Nat) (T15_0 : RgmT20) (m : Nat) : TS → Option (List (List Int × List Int × Unit) × Int) := loopK (den (E15 Q P A V) lv15 N (sub c15 [1, 1, 1, 1, 1, 0, 1, 0, 0, 1, 1, 0, 0, 1, 1, 1, 1, 1, 0, 1, 0, 0])) (TS.norm nm15_1) (K15_1 Q P A V N T15_0) m
def l15b (Q : RgmT4) (P : RgmT5) (A : RgmT1) (V : RgmT2) (N : Nat) (r2 : rmZ4 × List Int × Unit) (done7_a : Int) (t22_a : Int) (out6_a : List (List Int × List Int × Unit)) (r4 : Int) (l15a' : Int → Int → (List (List Int × List Int × Unit)) → Option (List (List Int × List Int × Unit) × Int)) : Nat → Int → (List Int) → (List Int) → Option (List (List Int × List Int × Unit) × Int)
 | 0, _, _, _ => none
 | n + 1, t37_b, oA_b, oB_b => cond (decide (t37_b < (r2.2.1.length : Int))) ((A r4 t37_b).bind fun r5 =>
   cond (!r5) ((l15b Q P A V N r2 done7_a t22_a out6_a r4 l15a' n (w64 (t37_b + 1)) oA_b oB_b))
   (cond (decide (t37_b < r2.1.1)) (chk (small (oA_b.length + 1) 8) ((l15b Q P A V N r2 done7_a t22_a out6_a r4 l15a' n (w64 (t37_b + 1)) (oA_b ++ ([t37_b] : List Int)) oB_b)))
   (chk (small (oB_b.length + 1) 8) ((l15b Q P A V N r2 done7_a t22_a out6_a r4 l15a' n (w64 (t37_b + 1)) oA_b (oB_b ++ ([w64 (t37_b - r2.1.1)] : List Int)))))))
   (chk (small (out6_a.length + 1) 48) ((l15a' (bOr .u16 done7_a r4) (w64 (t22_a + 1)) (out6_a ++ ([(oA_b, (oB_b, ()))] : List (List Int × List Int × Unit))))))
theorem wl15b (Q : RgmT4) (P : RgmT5) (A : RgmT1) (V : RgmT2) (N : Nat) (r2 : rmZ4 × List Int × Unit) (done7_a : Int) (t22_a : Int) (out6_a : List (List Int × List Int × Unit)) (r4 : Int) (T15_0 : RgmT20) (m : Nat) (t37_b : Int) (oA_b : List Int) (oB_b : List Int) : R15_1 Q P A V N T15_0 (m + 1) (Sl15b r2 done7_a t22_a out6_a r4 t37_b oA_b oB_b) = cond (decide (t37_b < (r2.2.1.length : Int))) ((A r4 t37_b).bind fun r5 =>
   cond (!r5) ((R15_1 Q P A V N T15_0 m (Sl15b r2 done7_a t22_a out6_a r4 (w64 (t37_b + 1)) oA_b oB_b)))
   (cond (decide (t37_b < r2.1.1)) (chk (small (oA_b.length + 1) 8) ((R15_1 Q P A V N T15_0 m (Sl15b r2 done7_a t22_a out6_a r4 (w64 (t37_b + 1)) (oA_b ++ ([t37_b] : List Int)) oB_b))))
   (chk (small (oB_b.length + 1) 8) ((R15_1 Q P A V N T15_0 m (Sl15b r2 done7_a t22_a out6_a r4 (w64 (t37_b + 1)) oA_b (oB_b ++ ([w64 (t37_b - r2.1.1)] : List Int))))))))
   (chk (small (out6_a.length + 1) 48) ((T15_0 (Sl15a r2 (bOr .u16 done7_a r4) (w64 (t22_a + 1)) (out6_a ++ ([(oA_b, (oB_b, ()))] : List (List Int × List Int × Unit))))))) := by kernel_rfl
theorem ql15b (Q : RgmT4) (P : RgmT5) (A : RgmT1) (V : RgmT2) (N : Nat) (r2 : rmZ4 × List Int × Unit) (done7_a : Int) (t22_a : Int) (out6_a : List (List Int × List Int × Unit)) (r4 : Int) (T15_0 : RgmT20) : ∀ (m : Nat) (t37_b : Int) (oA_b : List Int) (oB_b : List Int), R15_1 Q P A V N T15_0 m (Sl15b r2 done7_a t22_a out6_a r4 t37_b oA_b oB_b) = l15b Q P A V N r2 done7_a t22_a out6_a r4 (fun y0 y1 y2 => T15_0 (Sl15a r2 y0 y1 y2)) m t37_b oA_b oB_b
        | 0, _, _, _ => rfl
        | m + 1, t37_b, oA_b, oB_b => by rw [wl15b]; simp only [l15b, ql15b Q P A V N r2 done7_a t22_a out6_a r4 T15_0 m]
def l15a (Q : RgmT4) (P : RgmT5) (A : RgmT1) (V : RgmT2) (N : Nat) (r2 : rmZ4 × List Int × Unit) : Nat → Int → Int → (List (List Int × List Int × Unit)) → Option (List (List Int × List Int × Unit) × Int)
 | 0, _, _, _ => none
 | n + 1, done7_a, t22_a, out6_a => cond (decide (t22_a < (r2.2.1.length : Int))) ((A done7_a t22_a).bind fun r3 =>
   cond (r3) ((l15a Q P A V N r2 n done7_a (w64 (t22_a + 1)) out6_a))
   ((V r2 t22_a).bind fun r4 =>
   (l15b Q P A V N r2 done7_a t22_a out6_a r4 (fun y0 y1 y2 => (l15a Q P A V N r2 n y0 y1 y2)) N (0 : Int) ([] : List Int) ([] : List Int))))
   (some (out6_a, (0 : Int)))
theorem wl15a (Q : RgmT4) (P : RgmT5) (A : RgmT1) (V : RgmT2) (N : Nat) (r2 : rmZ4 × List Int × Unit) (m : Nat) (done7_a : Int) (t22_a : Int) (out6_a : List (List Int × List Int × Unit)) : R15_0 Q P A V N (m + 1) (Sl15a r2 done7_a t22_a out6_a) = cond (decide (t22_a < (r2.2.1.length : Int))) ((A done7_a t22_a).bind fun r3 =>
   cond (r3) ((R15_0 Q P A V N m (Sl15a r2 done7_a (w64 (t22_a + 1)) out6_a)))
   ((V r2 t22_a).bind fun r4 =>
   (R15_1 Q P A V N (R15_0 Q P A V N m) N (Sl15b r2 done7_a t22_a out6_a r4 (0 : Int) ([] : List Int) ([] : List Int)))))
   (some (out6_a, (0 : Int))) := by kernel_rfl
theorem ql15a (Q : RgmT4) (P : RgmT5) (A : RgmT1) (V : RgmT2) (N : Nat) (r2 : rmZ4 × List Int × Unit) : ∀ (m : Nat) (done7_a : Int) (t22_a : Int) (out6_a : List (List Int × List Int × Unit)), R15_0 Q P A V N m (Sl15a r2 done7_a t22_a out6_a) = l15a Q P A V N r2 m done7_a t22_a out6_a
        | 0, _, _, _ => rfl
        | m + 1, done7_a, t22_a, out6_a => by rw [wl15a]; simp only [l15a, ql15b, ql15a Q P A V N r2 m]
def m15 (Q : RgmT4) (P : RgmT5) (A : RgmT1) (V : RgmT2) (N : Nat) (r0 : Int × Int × List rmZ1 × Unit) : Option (List (List Int × List Int × Unit) × Int) :=
   (Q r0).bind fun r1 =>
   cond (r1 != (0 : Int)) (some (([] : List (List Int × List Int × Unit)), r1))
   ((P r0 (-1 : Int)).bind fun r2 =>
   (l15a Q P A V N r2 N (0 : Int) (0 : Int) ([] : List (List Int × List Int × Unit))))
theorem wm15 (Q : RgmT4) (P : RgmT5) (A : RgmT1) (V : RgmT2) (N : Nat) (r0 : Int × Int × List rmZ1 × Unit) : callF (E15 Q P A V) lv15 N en15 c15 (resOf Try.f15) 73 [.dv rmZ2 r0] [] dec15 = (Q r0).bind fun r1 =>
   cond (r1 != (0 : Int)) (some (([] : List (List Int × List Int × Unit)), r1))
   ((P r0 (-1 : Int)).bind fun r2 =>
   (R15_0 Q P A V N N (Sl15a r2 (0 : Int) (0 : Int) ([] : List (List Int × List Int × Unit))))) := by kernel_rfl
theorem k15 (Q : RgmT4) (P : RgmT5) (A : RgmT1) (V : RgmT2) (N : Nat) (r0 : Int × Int × List rmZ1 × Unit) : callF (E15 Q P A V) lv15 N en15 c15 (resOf Try.f15) 73 [.dv rmZ2 r0] [] dec15 = m15 Q P A V N r0 := by rw [wm15]; simp only [m15, ql15a]
theorem ok15 (Q : RgmT4) (P : RgmT5) (A : RgmT1) (V : RgmT2) (h27 : FnOk Try.prog 27 (F27 Q)) (h28 : FnOk Try.prog 28 (F28 P)) (h38 : FnOk Try.prog 38 (F38 A)) (h39 : FnOk Try.prog 39 (F39 V)) (a : rmZ4 → Option (List (List Int × List Int × Unit) × Int)) (h : ∀ r0 r, a r0 = some r → (∃ N, m15 Q P A V N r0 = some r)) : FnOk Try.prog 15 (F15 a) := by
 intro args Of x hx
 simp only [F15] at hx
 split at hx
 ·rename_i r0
  obtain ⟨N, hN⟩ := h _ _ hx
  refine lifted (L := [(27, F27 Q), (28, F28 P), (38, F38 A), (39, F39 V)]) (rc := (fun i => ([(10, [none, none])] : List (Nat × List (Option DT))).lookup i)) (fz := nfz) (fn := Try.f15) (by kernel_rfl) (by kernel_rfl) (by kernel_rfl) (by kernel_rfl) rfl ?_ ((k15 Q P A V N _).trans hN) ?_
  ·intro p hp; simp only [List.mem_cons, List.not_mem_nil, or_false] at hp; rcases hp with rfl | rfl | rfl | rfl
   ·exact h27
   ·exact h28
   ·exact h38
   ·exact h39
  ·intro l o hd
   simp only [dec15] at hd
   split at hd
   ·obtain rfl := oij hd; exact ⟨rfl, rfl⟩
   ·cases hd
 ·cases hx
def E43n : Env := mkE TI TY [] nrc nfz
noncomputable def c43n : Code := bodyOf Try.f43
def lv43n : Nat → Option Norm := norms []
def en43n : End := ⟨[(9, .csl (.int .i64))], ⟨[9], [], [], []⟩⟩
def dec43n (l : List TV) (o : List (Nat × TO)) : Option (List Int) := match l, o with | [.dv (.csl (.int .i64)) x0], [] => some (x0) | _, _ => none
def m43n (N : Nat) (s0 : Option (List Int)) : Option (List Int) :=
   chk (decide (0 ≤ ((s0.getD []).length : Int) ∧ ((s0.getD []).length : Int) ≤ ((s0.getD []).length : Int)) && decide (((s0.getD []).length : Int) = ((s0.getD []).length : Int))) (some ((s0.getD []).take (((s0.getD []).length : Int).toNat)))
theorem k43n (N : Nat) (s0 : Option (List Int)) : callF (E43n) lv43n N en43n c43n (resOf Try.f43) 8 [.dv (.nsl (.int .i64)) s0] [] dec43n = m43n N s0 := by kernel_rfl
theorem ok43n (a : (Option (List Int)) → Option (List Int)) (h : ∀ s0 r, a s0 = some r → (∃ N, m43n N s0 = some r)) : FnOk Try.prog 43 (F43n a) := by
 intro args Of x hx
 simp only [F43n] at hx
 split at hx
 ·rename_i s0
  obtain ⟨N, hN⟩ := h _ _ hx
  refine lifted (L := []) (rc := nrc) (fz := nfz) (fn := Try.f43) (by kernel_rfl) (by kernel_rfl) (by kernel_rfl) (by kernel_rfl) rfl ?_ ((k43n N _).trans hN) ?_
  ·intro p hp; cases hp
  ·intro l o hd
   simp only [dec43n] at hd
   split at hd
   ·obtain rfl := oij hd; exact ⟨rfl, rfl⟩
   ·cases hd
 ·cases hx
def E44c (a42c : RgmT21) (U : RgmT22) : Env := mkE TI TY [(42, F42c a42c), (43, F43n U)] nrc nfz
noncomputable def c44c : Code := bodyOf Try.f44
def nm44c_0 : Norm := ⟨[0, 1, 5, 6, 7, 21, 22, 23], [9003, 9004, 9005, 9000, 9001, 9002, 9006, 9007], [], []⟩
def lv44c : Nat → Option Norm := norms [(5, nm44c_0)]
def en44c : End := ⟨[(57, .nsl (.int .i64))], ⟨[57], [9000, 9001, 9002, 9003, 9004, 9005, 9006, 9007], [], []⟩⟩
def dec44c (l : List TV) (o : List (Nat × TO)) : Option (Option (List Int) × List (List Bool) × Int × List (Int × Int × List (Int × Int × Int × Unit) × Unit) × Int × List (List Bool) × List (List (List Bool))) := match l with | [.dv (.nsl (.int .i64)) x0] => (match o with | [(9000, .row (.arr 6 (.bool)) x1), (9001, .rcd [.dv (.int .i64) x2]), (9002, .row (.pair (.int .i64) (.pair (.int .i64) (.pair (.sl (.pair (.int .i64) (.pair (.int .i64) (.pair (.int .i64) (.unit))))) (.unit)))) x3), (9003, .rcd [.dv (.int .i64) x4]), (9004, .row (.arr 6 (.bool)) x5), (9005, .rcd [.fn 42 0 6 _]), (9006, .row (.arr 6 (.arr 6 (.bool))) x6), (9007, .rcd [.fn 44 0 6 _])] => (match capsOf l o with | [[.ptr 9004 0 [], .ptr 9002 0 [], .ptr 9003 0 [0], .ptr 9006 0 [], .ptr 9000 0 [], .ptr 9007 0 [0]], [.ptr 9000 0 [], .ptr 9001 0 [0], .ptr 9002 0 [], .ptr 9003 0 [0], .ptr 9004 0 [], .ptr 9005 0 [0]]] => some (x0, x1, x2, x3, x4, x5, x6) | _ => none) | _ => none) | _ => none
def Sl44ca (at0 : Int) (way1 : Option (List Int)) (p4 : List rmZ4) (t23_a : Int) (oF_af0 : Int) (oG_a : List (List Bool)) (oC_a : List (List Bool)) (oD_af0 : Int) (oE_a : RgmT18) (oH_a : List (List (List Bool))) : TS := ⟨slots 57 [(0, .dv (.int .i64) at0), (1, .dv (.nsl (.int .i64)) way1), (5, .ptr 9003 0 [0]), (6, .ptr 9004 0 []), (7, .ptr 9005 0 [0]), (21, .dv (.sl rmZ5) ((((p4.getD 0 rmZ6).2).2).1)), (22, .dv (.int .i64) (((((p4.getD 0 rmZ6).2).2).1).length : Int)), (23, .dv (.int .i64) t23_a)], [(9003, .rcd [.dv (.int .i64) oF_af0]), (9004, .row (.arr 6 (.bool)) oG_a), (9005, .rcd [.fn 42 0 6 fun i => ([.ptr 9004 0 [], .ptr 9002 0 [], .ptr 9003 0 [0], .ptr 9006 0 [], .ptr 9000 0 [], .ptr 9007 0 [0]] : List TV).getD i .any]), (9000, .row (.arr 6 (.bool)) oC_a), (9001, .rcd [.dv (.int .i64) oD_af0]), (9002, .row rmZ2 oE_a), (9006, .row (.arr 6 (.arr 6 (.bool))) oH_a), (9007, .rcd [.fn 44 0 6 fun i => ([.ptr 9000 0 [], .ptr 9001 0 [0], .ptr 9002 0 [], .ptr 9003 0 [0], .ptr 9004 0 [], .ptr 9005 0 [0]] : List TV).getD i .any])]⟩
noncomputable def K44c_0 (a42c : RgmT21) (U : RgmT22) (N : Nat) : Kont (Option (List Int) × List (List Bool) × Int × List (Int × Int × List (Int × Int × Int × Unit) × Unit) × Int × List (List Bool) × List (List (List Bool))) := kont (E44c a42c U) lv44c N c44c [1, 1, 1, 0, 1, 0] (fin TI en44c (resOf Try.f44) dec44c)
noncomputable def R44c_0 (a42c : RgmT21) (U : RgmT22) (N : Nat) (m : Nat) : TS → Option (Option (List Int) × List (List Bool) × Int × List (Int × Int × List (Int × Int × Int × Unit) × Unit) × Int × List (List Bool) × List (List (List Bool))) := loopK (den (E44c a42c U) lv44c N (sub c44c [1, 1, 1, 0, 1, 0, 0])) (TS.norm nm44c_0) (K44c_0 a42c U N) m
def l44ca (a42c : RgmT21) (U : RgmT22) (N : Nat) (at0 : Int) (way1 : Option (List Int)) (p4 : List rmZ4) : Nat → Int → Int → (List (List Bool)) → (List (List Bool)) → Int → (List rmZ4) → (List (List (List Bool))) → Option (Option (List Int) × List (List Bool) × Int × List rmZ4 × Int × List (List Bool) × List (List (List Bool)))
 | 0, _, _, _, _, _, _, _ => none
 | n + 1, t23_a, oF_af0, oG_a, oC_a, oD_af0, oE_a, oH_a => cond (decide (t23_a < (((((p4.getD 0 rmZ6).2).2).1).length : Int))) (chk (decide (0 ≤ t23_a ∧ t23_a < (((((p4.getD 0 rmZ6).2).2).1).length : Int))) (cond (t23_a != oF_af0) (cond ((((((((p4.getD 0 rmZ6).2).2).1).getD t23_a.toNat rmZ0).2).1) == at0) (chk (decide (0 ≤ (((((p4.getD 0 rmZ6).2).2).1).getD t23_a.toNat rmZ0).1 ∧ (((((p4.getD 0 rmZ6).2).2).1).getD t23_a.toNat rmZ0).1 < (6 : Int))) (cond (!((oG_a.getD 0 rmZ3).getD (((((((p4.getD 0 rmZ6).2).2).1).getD t23_a.toNat rmZ0).1).toNat) false)) ((U way1).bind fun r1 =>
   chk (small (r1.length + 1) 8) (chk ((decide (0 < (r1 ++ ([t23_a] : List Int)).length)) && (true)) ((a42c ((((((p4.getD 0 rmZ6).2).2).1).getD t23_a.toNat rmZ0).1) (some (r1 ++ ([t23_a] : List Int))) oG_a oE_a oF_af0 oH_a oC_a oD_af0).bind fun r2 =>
   cond (!r2.1.isNone) (some (r2.1, r2.2.2.2.2.2.1, r2.2.2.2.2.2.2, r2.2.2.1, r2.2.2.2.1, r2.2.1, r2.2.2.2.2.1))
   ((l44ca a42c U N at0 way1 p4 n (w64 (t23_a + 1)) r2.2.2.2.1 r2.2.1 r2.2.2.2.2.2.1 r2.2.2.2.2.2.2 r2.2.2.1 r2.2.2.2.2.1)))))
   ((l44ca a42c U N at0 way1 p4 n (w64 (t23_a + 1)) oF_af0 oG_a oC_a oD_af0 oE_a oH_a))))
   ((l44ca a42c U N at0 way1 p4 n (w64 (t23_a + 1)) oF_af0 oG_a oC_a oD_af0 oE_a oH_a)))
   ((l44ca a42c U N at0 way1 p4 n (w64 (t23_a + 1)) oF_af0 oG_a oC_a oD_af0 oE_a oH_a))))
   (some ((none : Option (List Int)), oC_a, oD_af0, oE_a, oF_af0, oG_a, oH_a))
theorem wl44ca (a42c : RgmT21) (U : RgmT22) (N : Nat) (at0 : Int) (way1 : Option (List Int)) (p4 : List rmZ4) (m : Nat) (t23_a : Int) (oF_af0 : Int) (oG_a : List (List Bool)) (oC_a : List (List Bool)) (oD_af0 : Int) (oE_a : RgmT18) (oH_a : List (List (List Bool))) : R44c_0 a42c U N (m + 1) (Sl44ca at0 way1 p4 t23_a oF_af0 oG_a oC_a oD_af0 oE_a oH_a) = cond (decide (t23_a < (((((p4.getD 0 rmZ6).2).2).1).length : Int))) (chk (decide (0 ≤ t23_a ∧ t23_a < (((((p4.getD 0 rmZ6).2).2).1).length : Int))) (cond (t23_a != oF_af0) (cond ((((((((p4.getD 0 rmZ6).2).2).1).getD t23_a.toNat rmZ0).2).1) == at0) (chk (decide (0 ≤ (((((p4.getD 0 rmZ6).2).2).1).getD t23_a.toNat rmZ0).1 ∧ (((((p4.getD 0 rmZ6).2).2).1).getD t23_a.toNat rmZ0).1 < (6 : Int))) (cond (!((oG_a.getD 0 rmZ3).getD (((((((p4.getD 0 rmZ6).2).2).1).getD t23_a.toNat rmZ0).1).toNat) false)) ((U way1).bind fun r1 =>
   chk (small (r1.length + 1) 8) (chk ((decide (0 < (r1 ++ ([t23_a] : List Int)).length)) && (true)) ((a42c ((((((p4.getD 0 rmZ6).2).2).1).getD t23_a.toNat rmZ0).1) (some (r1 ++ ([t23_a] : List Int))) oG_a oE_a oF_af0 oH_a oC_a oD_af0).bind fun r2 =>
   cond (!r2.1.isNone) (some (r2.1, r2.2.2.2.2.2.1, r2.2.2.2.2.2.2, r2.2.2.1, r2.2.2.2.1, r2.2.1, r2.2.2.2.2.1))
   ((R44c_0 a42c U N m (Sl44ca at0 way1 p4 (w64 (t23_a + 1)) r2.2.2.2.1 r2.2.1 r2.2.2.2.2.2.1 r2.2.2.2.2.2.2 r2.2.2.1 r2.2.2.2.2.1))))))
   ((R44c_0 a42c U N m (Sl44ca at0 way1 p4 (w64 (t23_a + 1)) oF_af0 oG_a oC_a oD_af0 oE_a oH_a)))))
   ((R44c_0 a42c U N m (Sl44ca at0 way1 p4 (w64 (t23_a + 1)) oF_af0 oG_a oC_a oD_af0 oE_a oH_a))))
   ((R44c_0 a42c U N m (Sl44ca at0 way1 p4 (w64 (t23_a + 1)) oF_af0 oG_a oC_a oD_af0 oE_a oH_a)))))
   (some ((none : Option (List Int)), oC_a, oD_af0, oE_a, oF_af0, oG_a, oH_a)) := by kernel_rfl
theorem ql44ca (a42c : RgmT21) (U : RgmT22) (N : Nat) (at0 : Int) (way1 : Option (List Int)) (p4 : List rmZ4) : ∀ (m : Nat) (t23_a : Int) (oF_af0 : Int) (oG_a : List (List Bool)) (oC_a : List (List Bool)) (oD_af0 : Int) (oE_a : RgmT18) (oH_a : List (List (List Bool))), R44c_0 a42c U N m (Sl44ca at0 way1 p4 t23_a oF_af0 oG_a oC_a oD_af0 oE_a oH_a) = l44ca a42c U N at0 way1 p4 m t23_a oF_af0 oG_a oC_a oD_af0 oE_a oH_a
        | 0, _, _, _, _, _, _, _ => rfl
        | m + 1, t23_a, oF_af0, oG_a, oC_a, oD_af0, oE_a, oH_a => by rw [wl44ca]; simp only [l44ca, ql44ca a42c U N at0 way1 p4 m]
def m44c (a42c : RgmT21) (U : RgmT22) (N : Nat) (at0 : Int) (way1 : Option (List Int)) (p2 : List (List Bool)) (p3 : Int) (p4 : List rmZ4) (p5 : Int) (p6 : List (List Bool)) (p7 : List (List (List Bool))) : Option (Option (List Int) × List (List Bool) × Int × List rmZ4 × Int × List (List Bool) × List (List (List Bool))) :=
   chk (decide (0 ≤ at0 ∧ at0 < (6 : Int))) (chk ((decide (at0.toNat < (p2.getD 0 rmZ3).length)) && (true)) (cond (at0 == p3) (some (way1, p2.set 0 ((p2.getD 0 rmZ3).set at0.toNat true), p3, p4, p5, p6, p7))
   ((l44ca a42c U N at0 way1 p4 N (0 : Int) p5 p6 (p2.set 0 ((p2.getD 0 rmZ3).set at0.toNat true)) p3 p4 p7))))
theorem wm44c (a42c : RgmT21) (U : RgmT22) (N : Nat) (at0 : Int) (way1 : Option (List Int)) (p2 : List (List Bool)) (p3 : Int) (p4 : List rmZ4) (p5 : Int) (p6 : List (List Bool)) (p7 : List (List (List Bool))) : callF (E44c a42c U) lv44c N en44c c44c (resOf Try.f44) 49 [.dv (.int .i64) at0, .dv (.nsl (.int .i64)) way1, .ptr 9000 0 [], .ptr 9001 0 [0], .ptr 9002 0 [], .ptr 9003 0 [0], .ptr 9004 0 [], .ptr 9005 0 [0]] [(9000, .row (.arr 6 (.bool)) p2), (9001, .rcd [.dv (.int .i64) p3]), (9002, .row rmZ2 p4), (9003, .rcd [.dv (.int .i64) p5]), (9004, .row (.arr 6 (.bool)) p6), (9005, .rcd [.fn 42 0 6 fun i => ([.ptr 9004 0 [], .ptr 9002 0 [], .ptr 9003 0 [0], .ptr 9006 0 [], .ptr 9000 0 [], .ptr 9007 0 [0]] : List TV).getD i .any]), (9006, .row (.arr 6 (.arr 6 (.bool))) p7), (9007, .rcd [.fn 44 0 6 fun i => ([.ptr 9000 0 [], .ptr 9001 0 [0], .ptr 9002 0 [], .ptr 9003 0 [0], .ptr 9004 0 [], .ptr 9005 0 [0]] : List TV).getD i .any])] dec44c = chk (decide (0 ≤ at0 ∧ at0 < (6 : Int))) (chk ((decide (at0.toNat < (p2.getD 0 rmZ3).length)) && (true)) (cond (at0 == p3) (some (way1, p2.set 0 ((p2.getD 0 rmZ3).set at0.toNat true), p3, p4, p5, p6, p7))
   ((R44c_0 a42c U N N (Sl44ca at0 way1 p4 (0 : Int) p5 p6 (p2.set 0 ((p2.getD 0 rmZ3).set at0.toNat true)) p3 p4 p7))))) := by kernel_rfl
theorem k44c (a42c : RgmT21) (U : RgmT22) (N : Nat) (at0 : Int) (way1 : Option (List Int)) (p2 : List (List Bool)) (p3 : Int) (p4 : List rmZ4) (p5 : Int) (p6 : List (List Bool)) (p7 : List (List (List Bool))) : callF (E44c a42c U) lv44c N en44c c44c (resOf Try.f44) 49 [.dv (.int .i64) at0, .dv (.nsl (.int .i64)) way1, .ptr 9000 0 [], .ptr 9001 0 [0], .ptr 9002 0 [], .ptr 9003 0 [0], .ptr 9004 0 [], .ptr 9005 0 [0]] [(9000, .row (.arr 6 (.bool)) p2), (9001, .rcd [.dv (.int .i64) p3]), (9002, .row rmZ2 p4), (9003, .rcd [.dv (.int .i64) p5]), (9004, .row (.arr 6 (.bool)) p6), (9005, .rcd [.fn 42 0 6 fun i => ([.ptr 9004 0 [], .ptr 9002 0 [], .ptr 9003 0 [0], .ptr 9006 0 [], .ptr 9000 0 [], .ptr 9007 0 [0]] : List TV).getD i .any]), (9006, .row (.arr 6 (.arr 6 (.bool))) p7), (9007, .rcd [.fn 44 0 6 fun i => ([.ptr 9000 0 [], .ptr 9001 0 [0], .ptr 9002 0 [], .ptr 9003 0 [0], .ptr 9004 0 [], .ptr 9005 0 [0]] : List TV).getD i .any])] dec44c = m44c a42c U N at0 way1 p2 p3 p4 p5 p6 p7 := by rw [wm44c]; simp only [m44c, ql44ca]
theorem ok44c (a42c : RgmT21) (U : RgmT22) (h42c : FnOk Try.prog 42 (F42c a42c)) (h43n : FnOk Try.prog 43 (F43n U)) (a : Int → (Option (List Int)) → (List (List Bool)) → Int → (List rmZ4) → Int → (List (List Bool)) → (List (List (List Bool))) → Option (Option (List Int) × List (List Bool) × Int × List rmZ4 × Int × List (List Bool) × List (List (List Bool)))) (h : ∀ at0 way1 p2 p3 p4 p5 p6 p7 r, a at0 way1 p2 p3 p4 p5 p6 p7 = some r → (∃ N, m44c a42c U N at0 way1 p2 p3 p4 p5 p6 p7 = some r)) : FnOk Try.prog 44 (F44c a) := by
 intro args Of x hx
 simp only [F44c] at hx
 split at hx
 rotate_left
 ·cases hx
 rename_i at0 way1
 split at hx
 rotate_left
 ·cases hx
 rename_i p2 p3 p4 p5 p6 f_0 p7 f_1
 split at hx
 rotate_left
 ·cases hx
 ·rename_i heqc
  have hc0 := congrArg (fun c : List (List TV) => c.getD 0 []) heqc
  have hc1 := congrArg (fun c : List (List TV) => c.getD 1 []) heqc
  obtain ⟨N, hN⟩ := h _ _ _ _ _ _ _ _ _ hx
  refine HSpec.etaL (args := [.dv (.int .i64) at0, .dv (.nsl (.int .i64)) way1, .ptr 9000 0 [], .ptr 9001 0 [0], .ptr 9002 0 [], .ptr 9003 0 [0], .ptr 9004 0 [], .ptr 9005 0 [0]]) (O := [(9000, .row (.arr 6 (.bool)) p2), (9001, .rcd [.dv (.int .i64) p3]), (9002, .row rmZ2 p4), (9003, .rcd [.dv (.int .i64) p5]), (9004, .row (.arr 6 (.bool)) p6), (9005, .rcd [.fn 42 0 6 fun i => ([.ptr 9004 0 [], .ptr 9002 0 [], .ptr 9003 0 [0], .ptr 9006 0 [], .ptr 9000 0 [], .ptr 9007 0 [0]] : List TV).getD i .any]), (9006, .row (.arr 6 (.arr 6 (.bool))) p7), (9007, .rcd [.fn 44 0 6 fun i => ([.ptr 9000 0 [], .ptr 9001 0 [0], .ptr 9002 0 [], .ptr 9003 0 [0], .ptr 9004 0 [], .ptr 9005 0 [0]] : List TV).getD i .any])]) ⟨TV.sim_refl _, TV.sim_refl _, TV.sim_refl _, TV.sim_refl _, TV.sim_refl _, TV.sim_refl _, TV.sim_refl _, TV.sim_refl _, trivial⟩ ⟨rfl, TO.sim_refl _, rfl, TO.sim_refl _, rfl, TO.sim_refl _, rfl, TO.sim_refl _, rfl, TO.sim_refl _, rfl, TO.sim_rcd ⟨TV.sim_fn hc0, trivial⟩, rfl, TO.sim_refl _, rfl, TO.sim_rcd ⟨TV.sim_fn hc1, trivial⟩, trivial⟩ (liftedS (L := [(42, F42c a42c), (43, F43n U)]) (rc := nrc) (fz := nfz) (fn := Try.f44) (by kernel_rfl) (by kernel_rfl) (by kernel_rfl) (by kernel_rfl) rfl ?_ ((k44c a42c U N _ _ _ _ _ _ _ _).trans hN) ?_)
  ·intro p hp; simp only [List.mem_cons, List.not_mem_nil, or_false] at hp; rcases hp with rfl | rfl
   ·exact h42c
   ·exact h43n
  ·intro l o hd
   simp only [dec44c] at hd
   split at hd
   rotate_left
   ·cases hd
   split at hd
   rotate_left
   ·cases hd
   split at hd
   rotate_left
   ·cases hd
   ·rename_i heqd
    have hd0 := congrArg (fun c : List (List TV) => c.getD 0 []) heqd
    have hd1 := congrArg (fun c : List (List TV) => c.getD 1 []) heqd
    obtain rfl := oij hd; exact ⟨TV.sim_refl _, ⟨rfl, TO.sim_refl _, rfl, TO.sim_refl _, rfl, TO.sim_refl _, rfl, TO.sim_refl _, rfl, TO.sim_refl _, rfl, TO.sim_rcd ⟨TV.sim_symm (TV.sim_fn hd0), trivial⟩, rfl, TO.sim_refl _, rfl, TO.sim_rcd ⟨TV.sim_symm (TV.sim_fn hd1), trivial⟩, trivial⟩⟩
def E42c (U : RgmT22) (a44c : RgmT23) : Env := mkE TI TY [(43, F43n U), (44, F44c a44c)] nrc nfz
noncomputable def c42c : Code := bodyOf Try.f42
def nm42c_0 : Norm := ⟨[0, 1, 4, 5, 6, 7, 17, 18, 19], [9002, 9003, 9004, 9005, 9000, 9001, 9006, 9007], [], []⟩
def lv42c : Nat → Option Norm := norms [(3, nm42c_0)]
def en42c : End := ⟨[(65, .nsl (.int .i64))], ⟨[65], [9000, 9001, 9002, 9003, 9004, 9005, 9006, 9007], [], []⟩⟩
def dec42c (l : List TV) (o : List (Nat × TO)) : Option (Option (List Int) × List (List Bool) × List (Int × Int × List (Int × Int × Int × Unit) × Unit) × Int × List (List (List Bool)) × List (List Bool) × Int) := match l with | [.dv (.nsl (.int .i64)) x0] => (match o with | [(9000, .row (.arr 6 (.bool)) x1), (9001, .row (.pair (.int .i64) (.pair (.int .i64) (.pair (.sl (.pair (.int .i64) (.pair (.int .i64) (.pair (.int .i64) (.unit))))) (.unit)))) x2), (9002, .rcd [.dv (.int .i64) x3]), (9003, .row (.arr 6 (.arr 6 (.bool))) x4), (9004, .row (.arr 6 (.bool)) x5), (9005, .rcd [.fn 44 0 6 _]), (9006, .rcd [.dv (.int .i64) x6]), (9007, .rcd [.fn 42 0 6 _])] => (match capsOf l o with | [[.ptr 9004 0 [], .ptr 9006 0 [0], .ptr 9001 0 [], .ptr 9002 0 [0], .ptr 9000 0 [], .ptr 9007 0 [0]], [.ptr 9000 0 [], .ptr 9001 0 [], .ptr 9002 0 [0], .ptr 9003 0 [], .ptr 9004 0 [], .ptr 9005 0 [0]]] => some (x0, x1, x2, x3, x4, x5, x6) | _ => none) | _ => none) | _ => none
def Sl42ca (at0 : Int) (way1 : Option (List Int)) (p3 : List rmZ4) (t19_a : Int) (oE_af0 : Int) (oF_a : List (List (List Bool))) (oG_a : List (List Bool)) (oC_a : List (List Bool)) (oD_a : RgmT18) (oH_af0 : Int) : TS := ⟨slots 65 [(0, .dv (.int .i64) at0), (1, .dv (.nsl (.int .i64)) way1), (4, .ptr 9002 0 [0]), (5, .ptr 9003 0 []), (6, .ptr 9004 0 []), (7, .ptr 9005 0 [0]), (17, .dv (.sl rmZ5) ((((p3.getD 0 rmZ6).2).2).1)), (18, .dv (.int .i64) (((((p3.getD 0 rmZ6).2).2).1).length : Int)), (19, .dv (.int .i64) t19_a)], [(9002, .rcd [.dv (.int .i64) oE_af0]), (9003, .row (.arr 6 (.arr 6 (.bool))) oF_a), (9004, .row (.arr 6 (.bool)) oG_a), (9005, .rcd [.fn 44 0 6 fun i => ([.ptr 9004 0 [], .ptr 9006 0 [0], .ptr 9001 0 [], .ptr 9002 0 [0], .ptr 9000 0 [], .ptr 9007 0 [0]] : List TV).getD i .any]), (9000, .row (.arr 6 (.bool)) oC_a), (9001, .row rmZ2 oD_a), (9006, .rcd [.dv (.int .i64) oH_af0]), (9007, .rcd [.fn 42 0 6 fun i => ([.ptr 9000 0 [], .ptr 9001 0 [], .ptr 9002 0 [0], .ptr 9003 0 [], .ptr 9004 0 [], .ptr 9005 0 [0]] : List TV).getD i .any])]⟩
noncomputable def K42c_0 (U : RgmT22) (a44c : RgmT23) (N : Nat) : Kont (Option (List Int) × List (List Bool) × List (Int × Int × List (Int × Int × Int × Unit) × Unit) × Int × List (List (List Bool)) × List (List Bool) × Int) := kont (E42c U a44c) lv42c N c42c [1, 1, 0, 1, 0] (fin TI en42c (resOf Try.f42) dec42c)
noncomputable def R42c_0 (U : RgmT22) (a44c : RgmT23) (N : Nat) (m : Nat) : TS → Option (Option (List Int) × List (List Bool) × List (Int × Int × List (Int × Int × Int × Unit) × Unit) × Int × List (List (List Bool)) × List (List Bool) × Int) := loopK (den (E42c U a44c) lv42c N (sub c42c [1, 1, 0, 1, 0, 0])) (TS.norm nm42c_0) (K42c_0 U a44c N) m
def l42ca (U : RgmT22) (a44c : RgmT23) (N : Nat) (at0 : Int) (way1 : Option (List Int)) (p3 : List rmZ4) : Nat → Int → Int → (List (List (List Bool))) → (List (List Bool)) → (List (List Bool)) → (List rmZ4) → Int → Option (Option (List Int) × List (List Bool) × List rmZ4 × Int × List (List (List Bool)) × List (List Bool) × Int)
 | 0, _, _, _, _, _, _, _ => none
 | n + 1, t19_a, oE_af0, oF_a, oG_a, oC_a, oD_a, oH_af0 => cond (decide (t19_a < (((((p3.getD 0 rmZ6).2).2).1).length : Int))) (chk (decide (0 ≤ t19_a ∧ t19_a < (((((p3.getD 0 rmZ6).2).2).1).length : Int))) (cond (t19_a == oE_af0) ((l42ca U a44c N at0 way1 p3 n (w64 (t19_a + 1)) oE_af0 oF_a oG_a oC_a oD_a oH_af0))
   (cond (((((((p3.getD 0 rmZ6).2).2).1).getD t19_a.toNat rmZ0).1) != at0) ((l42ca U a44c N at0 way1 p3 n (w64 (t19_a + 1)) oE_af0 oF_a oG_a oC_a oD_a oH_af0))
   (chk (decide (0 ≤ at0 ∧ at0 < (6 : Int))) (chk (decide (0 ≤ ((((((p3.getD 0 rmZ6).2).2).1).getD t19_a.toNat rmZ0).2).1 ∧ ((((((p3.getD 0 rmZ6).2).2).1).getD t19_a.toNat rmZ0).2).1 < (6 : Int))) (cond (((oF_a.getD 0 ([rmZ3, rmZ3, rmZ3, rmZ3, rmZ3, rmZ3] : List (List Bool))).getD at0.toNat rmZ3).getD ((((((((p3.getD 0 rmZ6).2).2).1).getD t19_a.toNat rmZ0).2).1).toNat) false) ((l42ca U a44c N at0 way1 p3 n (w64 (t19_a + 1)) oE_af0 oF_a oG_a oC_a oD_a oH_af0))
   (chk (decide (0 ≤ ((((((p3.getD 0 rmZ6).2).2).1).getD t19_a.toNat rmZ0).2).1 ∧ ((((((p3.getD 0 rmZ6).2).2).1).getD t19_a.toNat rmZ0).2).1 < (6 : Int))) (cond ((oG_a.getD 0 rmZ3).getD ((((((((p3.getD 0 rmZ6).2).2).1).getD t19_a.toNat rmZ0).2).1).toNat) false) ((l42ca U a44c N at0 way1 p3 n (w64 (t19_a + 1)) oE_af0 oF_a oG_a oC_a oD_a oH_af0))
   (chk (decide (0 ≤ at0 ∧ at0 < (6 : Int))) (chk (decide (0 ≤ ((((((p3.getD 0 rmZ6).2).2).1).getD t19_a.toNat rmZ0).2).1 ∧ ((((((p3.getD 0 rmZ6).2).2).1).getD t19_a.toNat rmZ0).2).1 < (6 : Int))) (chk ((decide (at0.toNat < (oF_a.getD 0 ([rmZ3, rmZ3, rmZ3, rmZ3, rmZ3, rmZ3] : List (List Bool))).length)) && ((decide ((((((((p3.getD 0 rmZ6).2).2).1).getD t19_a.toNat rmZ0).2).1).toNat < ((oF_a.getD 0 ([rmZ3, rmZ3, rmZ3, rmZ3, rmZ3, rmZ3] : List (List Bool))).getD at0.toNat rmZ3).length)) && (true))) ((U way1).bind fun r1 =>
   chk (small (r1.length + 1) 8) (chk ((decide (0 < (r1 ++ ([t19_a] : List Int)).length)) && (true)) ((a44c (((((((p3.getD 0 rmZ6).2).2).1).getD t19_a.toNat rmZ0).2).1) (some (r1 ++ ([t19_a] : List Int))) oG_a oH_af0 oD_a oE_af0 oC_a (oF_a.set 0 ((oF_a.getD 0 ([rmZ3, rmZ3, rmZ3, rmZ3, rmZ3, rmZ3] : List (List Bool))).set at0.toNat (((oF_a.getD 0 ([rmZ3, rmZ3, rmZ3, rmZ3, rmZ3, rmZ3] : List (List Bool))).getD at0.toNat rmZ3).set ((((((((p3.getD 0 rmZ6).2).2).1).getD t19_a.toNat rmZ0).2).1).toNat) true)))).bind fun r2 =>
   cond (!r2.1.isNone) (some (r2.1, r2.2.2.2.2.2.1, r2.2.2.2.1, r2.2.2.2.2.1, r2.2.2.2.2.2.2, r2.2.1, r2.2.2.1))
   ((l42ca U a44c N at0 way1 p3 n (w64 (t19_a + 1)) r2.2.2.2.2.1 r2.2.2.2.2.2.2 r2.2.1 r2.2.2.2.2.2.1 r2.2.2.2.1 r2.2.2.1))))))))))))))))
   (some ((none : Option (List Int)), oC_a, oD_a, oE_af0, oF_a, oG_a, oH_af0))
theorem wl42ca (U : RgmT22) (a44c : RgmT23) (N : Nat) (at0 : Int) (way1 : Option (List Int)) (p3 : List rmZ4) (m : Nat) (t19_a : Int) (oE_af0 : Int) (oF_a : List (List (List Bool))) (oG_a : List (List Bool)) (oC_a : List (List Bool)) (oD_a : RgmT18) (oH_af0 : Int) : R42c_0 U a44c N (m + 1) (Sl42ca at0 way1 p3 t19_a oE_af0 oF_a oG_a oC_a oD_a oH_af0) = cond (decide (t19_a < (((((p3.getD 0 rmZ6).2).2).1).length : Int))) (chk (decide (0 ≤ t19_a ∧ t19_a < (((((p3.getD 0 rmZ6).2).2).1).length : Int))) (cond (t19_a == oE_af0) ((R42c_0 U a44c N m (Sl42ca at0 way1 p3 (w64 (t19_a + 1)) oE_af0 oF_a oG_a oC_a oD_a oH_af0)))
   (cond (((((((p3.getD 0 rmZ6).2).2).1).getD t19_a.toNat rmZ0).1) != at0) ((R42c_0 U a44c N m (Sl42ca at0 way1 p3 (w64 (t19_a + 1)) oE_af0 oF_a oG_a oC_a oD_a oH_af0)))
   (chk (decide (0 ≤ at0 ∧ at0 < (6 : Int))) (chk (decide (0 ≤ ((((((p3.getD 0 rmZ6).2).2).1).getD t19_a.toNat rmZ0).2).1 ∧ ((((((p3.getD 0 rmZ6).2).2).1).getD t19_a.toNat rmZ0).2).1 < (6 : Int))) (cond (((oF_a.getD 0 ([rmZ3, rmZ3, rmZ3, rmZ3, rmZ3, rmZ3] : List (List Bool))).getD at0.toNat rmZ3).getD ((((((((p3.getD 0 rmZ6).2).2).1).getD t19_a.toNat rmZ0).2).1).toNat) false) ((R42c_0 U a44c N m (Sl42ca at0 way1 p3 (w64 (t19_a + 1)) oE_af0 oF_a oG_a oC_a oD_a oH_af0)))
   (chk (decide (0 ≤ ((((((p3.getD 0 rmZ6).2).2).1).getD t19_a.toNat rmZ0).2).1 ∧ ((((((p3.getD 0 rmZ6).2).2).1).getD t19_a.toNat rmZ0).2).1 < (6 : Int))) (cond ((oG_a.getD 0 rmZ3).getD ((((((((p3.getD 0 rmZ6).2).2).1).getD t19_a.toNat rmZ0).2).1).toNat) false) ((R42c_0 U a44c N m (Sl42ca at0 way1 p3 (w64 (t19_a + 1)) oE_af0 oF_a oG_a oC_a oD_a oH_af0)))
   (chk (decide (0 ≤ at0 ∧ at0 < (6 : Int))) (chk (decide (0 ≤ ((((((p3.getD 0 rmZ6).2).2).1).getD t19_a.toNat rmZ0).2).1 ∧ ((((((p3.getD 0 rmZ6).2).2).1).getD t19_a.toNat rmZ0).2).1 < (6 : Int))) (chk ((decide (at0.toNat < (oF_a.getD 0 ([rmZ3, rmZ3, rmZ3, rmZ3, rmZ3, rmZ3] : List (List Bool))).length)) && ((decide ((((((((p3.getD 0 rmZ6).2).2).1).getD t19_a.toNat rmZ0).2).1).toNat < ((oF_a.getD 0 ([rmZ3, rmZ3, rmZ3, rmZ3, rmZ3, rmZ3] : List (List Bool))).getD at0.toNat rmZ3).length)) && (true))) ((U way1).bind fun r1 =>
   chk (small (r1.length + 1) 8) (chk ((decide (0 < (r1 ++ ([t19_a] : List Int)).length)) && (true)) ((a44c (((((((p3.getD 0 rmZ6).2).2).1).getD t19_a.toNat rmZ0).2).1) (some (r1 ++ ([t19_a] : List Int))) oG_a oH_af0 oD_a oE_af0 oC_a (oF_a.set 0 ((oF_a.getD 0 ([rmZ3, rmZ3, rmZ3, rmZ3, rmZ3, rmZ3] : List (List Bool))).set at0.toNat (((oF_a.getD 0 ([rmZ3, rmZ3, rmZ3, rmZ3, rmZ3, rmZ3] : List (List Bool))).getD at0.toNat rmZ3).set ((((((((p3.getD 0 rmZ6).2).2).1).getD t19_a.toNat rmZ0).2).1).toNat) true)))).bind fun r2 =>
   cond (!r2.1.isNone) (some (r2.1, r2.2.2.2.2.2.1, r2.2.2.2.1, r2.2.2.2.2.1, r2.2.2.2.2.2.2, r2.2.1, r2.2.2.1))
   ((R42c_0 U a44c N m (Sl42ca at0 way1 p3 (w64 (t19_a + 1)) r2.2.2.2.2.1 r2.2.2.2.2.2.2 r2.2.1 r2.2.2.2.2.2.1 r2.2.2.2.1 r2.2.2.1)))))))))))))))))
   (some ((none : Option (List Int)), oC_a, oD_a, oE_af0, oF_a, oG_a, oH_af0)) := by kernel_rfl
theorem ql42ca (U : RgmT22) (a44c : RgmT23) (N : Nat) (at0 : Int) (way1 : Option (List Int)) (p3 : List rmZ4) : ∀ (m : Nat) (t19_a : Int) (oE_af0 : Int) (oF_a : List (List (List Bool))) (oG_a : List (List Bool)) (oC_a : List (List Bool)) (oD_a : RgmT18) (oH_af0 : Int), R42c_0 U a44c N m (Sl42ca at0 way1 p3 t19_a oE_af0 oF_a oG_a oC_a oD_a oH_af0) = l42ca U a44c N at0 way1 p3 m t19_a oE_af0 oF_a oG_a oC_a oD_a oH_af0
        | 0, _, _, _, _, _, _, _ => rfl
        | m + 1, t19_a, oE_af0, oF_a, oG_a, oC_a, oD_a, oH_af0 => by rw [wl42ca]; simp only [l42ca, ql42ca U a44c N at0 way1 p3 m]
def m42c (U : RgmT22) (a44c : RgmT23) (N : Nat) (at0 : Int) (way1 : Option (List Int)) (p2 : List (List Bool)) (p3 : List rmZ4) (p4 : Int) (p5 : List (List (List Bool))) (p6 : List (List Bool)) (p7 : Int) : Option (Option (List Int) × List (List Bool) × List rmZ4 × Int × List (List (List Bool)) × List (List Bool) × Int) :=
   chk (decide (0 ≤ at0 ∧ at0 < (6 : Int))) (chk ((decide (at0.toNat < (p2.getD 0 rmZ3).length)) && (true)) ((l42ca U a44c N at0 way1 p3 N (0 : Int) p4 p5 p6 (p2.set 0 ((p2.getD 0 rmZ3).set at0.toNat true)) p3 p7)))
theorem wm42c (U : RgmT22) (a44c : RgmT23) (N : Nat) (at0 : Int) (way1 : Option (List Int)) (p2 : List (List Bool)) (p3 : List rmZ4) (p4 : Int) (p5 : List (List (List Bool))) (p6 : List (List Bool)) (p7 : Int) : callF (E42c U a44c) lv42c N en42c c42c (resOf Try.f42) 57 [.dv (.int .i64) at0, .dv (.nsl (.int .i64)) way1, .ptr 9000 0 [], .ptr 9001 0 [], .ptr 9002 0 [0], .ptr 9003 0 [], .ptr 9004 0 [], .ptr 9005 0 [0]] [(9000, .row (.arr 6 (.bool)) p2), (9001, .row rmZ2 p3), (9002, .rcd [.dv (.int .i64) p4]), (9003, .row (.arr 6 (.arr 6 (.bool))) p5), (9004, .row (.arr 6 (.bool)) p6), (9005, .rcd [.fn 44 0 6 fun i => ([.ptr 9004 0 [], .ptr 9006 0 [0], .ptr 9001 0 [], .ptr 9002 0 [0], .ptr 9000 0 [], .ptr 9007 0 [0]] : List TV).getD i .any]), (9006, .rcd [.dv (.int .i64) p7]), (9007, .rcd [.fn 42 0 6 fun i => ([.ptr 9000 0 [], .ptr 9001 0 [], .ptr 9002 0 [0], .ptr 9003 0 [], .ptr 9004 0 [], .ptr 9005 0 [0]] : List TV).getD i .any])] dec42c = chk (decide (0 ≤ at0 ∧ at0 < (6 : Int))) (chk ((decide (at0.toNat < (p2.getD 0 rmZ3).length)) && (true)) ((R42c_0 U a44c N N (Sl42ca at0 way1 p3 (0 : Int) p4 p5 p6 (p2.set 0 ((p2.getD 0 rmZ3).set at0.toNat true)) p3 p7)))) := by kernel_rfl
theorem k42c (U : RgmT22) (a44c : RgmT23) (N : Nat) (at0 : Int) (way1 : Option (List Int)) (p2 : List (List Bool)) (p3 : List rmZ4) (p4 : Int) (p5 : List (List (List Bool))) (p6 : List (List Bool)) (p7 : Int) : callF (E42c U a44c) lv42c N en42c c42c (resOf Try.f42) 57 [.dv (.int .i64) at0, .dv (.nsl (.int .i64)) way1, .ptr 9000 0 [], .ptr 9001 0 [], .ptr 9002 0 [0], .ptr 9003 0 [], .ptr 9004 0 [], .ptr 9005 0 [0]] [(9000, .row (.arr 6 (.bool)) p2), (9001, .row rmZ2 p3), (9002, .rcd [.dv (.int .i64) p4]), (9003, .row (.arr 6 (.arr 6 (.bool))) p5), (9004, .row (.arr 6 (.bool)) p6), (9005, .rcd [.fn 44 0 6 fun i => ([.ptr 9004 0 [], .ptr 9006 0 [0], .ptr 9001 0 [], .ptr 9002 0 [0], .ptr 9000 0 [], .ptr 9007 0 [0]] : List TV).getD i .any]), (9006, .rcd [.dv (.int .i64) p7]), (9007, .rcd [.fn 42 0 6 fun i => ([.ptr 9000 0 [], .ptr 9001 0 [], .ptr 9002 0 [0], .ptr 9003 0 [], .ptr 9004 0 [], .ptr 9005 0 [0]] : List TV).getD i .any])] dec42c = m42c U a44c N at0 way1 p2 p3 p4 p5 p6 p7 := by rw [wm42c]; simp only [m42c, ql42ca]
theorem ok42c (U : RgmT22) (a44c : RgmT23) (h43n : FnOk Try.prog 43 (F43n U)) (h44c : FnOk Try.prog 44 (F44c a44c)) (a : Int → (Option (List Int)) → (List (List Bool)) → (List rmZ4) → Int → (List (List (List Bool))) → (List (List Bool)) → Int → Option (Option (List Int) × List (List Bool) × List rmZ4 × Int × List (List (List Bool)) × List (List Bool) × Int)) (h : ∀ at0 way1 p2 p3 p4 p5 p6 p7 r, a at0 way1 p2 p3 p4 p5 p6 p7 = some r → (∃ N, m42c U a44c N at0 way1 p2 p3 p4 p5 p6 p7 = some r)) : FnOk Try.prog 42 (F42c a) := by
 intro args Of x hx
 simp only [F42c] at hx
 split at hx
 rotate_left
 ·cases hx
 rename_i at0 way1
 split at hx
 rotate_left
 ·cases hx
 rename_i p2 p3 p4 p5 p6 f_0 p7 f_1
 split at hx
 rotate_left
 ·cases hx
 ·rename_i heqc
  have hc0 := congrArg (fun c : List (List TV) => c.getD 0 []) heqc
  have hc1 := congrArg (fun c : List (List TV) => c.getD 1 []) heqc
  obtain ⟨N, hN⟩ := h _ _ _ _ _ _ _ _ _ hx
  refine HSpec.etaL (args := [.dv (.int .i64) at0, .dv (.nsl (.int .i64)) way1, .ptr 9000 0 [], .ptr 9001 0 [], .ptr 9002 0 [0], .ptr 9003 0 [], .ptr 9004 0 [], .ptr 9005 0 [0]]) (O := [(9000, .row (.arr 6 (.bool)) p2), (9001, .row rmZ2 p3), (9002, .rcd [.dv (.int .i64) p4]), (9003, .row (.arr 6 (.arr 6 (.bool))) p5), (9004, .row (.arr 6 (.bool)) p6), (9005, .rcd [.fn 44 0 6 fun i => ([.ptr 9004 0 [], .ptr 9006 0 [0], .ptr 9001 0 [], .ptr 9002 0 [0], .ptr 9000 0 [], .ptr 9007 0 [0]] : List TV).getD i .any]), (9006, .rcd [.dv (.int .i64) p7]), (9007, .rcd [.fn 42 0 6 fun i => ([.ptr 9000 0 [], .ptr 9001 0 [], .ptr 9002 0 [0], .ptr 9003 0 [], .ptr 9004 0 [], .ptr 9005 0 [0]] : List TV).getD i .any])]) ⟨TV.sim_refl _, TV.sim_refl _, TV.sim_refl _, TV.sim_refl _, TV.sim_refl _, TV.sim_refl _, TV.sim_refl _, TV.sim_refl _, trivial⟩ ⟨rfl, TO.sim_refl _, rfl, TO.sim_refl _, rfl, TO.sim_refl _, rfl, TO.sim_refl _, rfl, TO.sim_refl _, rfl, TO.sim_rcd ⟨TV.sim_fn hc0, trivial⟩, rfl, TO.sim_refl _, rfl, TO.sim_rcd ⟨TV.sim_fn hc1, trivial⟩, trivial⟩ (liftedS (L := [(43, F43n U), (44, F44c a44c)]) (rc := nrc) (fz := nfz) (fn := Try.f42) (by kernel_rfl) (by kernel_rfl) (by kernel_rfl) (by kernel_rfl) rfl ?_ ((k42c U a44c N _ _ _ _ _ _ _ _).trans hN) ?_)
  ·intro p hp; simp only [List.mem_cons, List.not_mem_nil, or_false] at hp; rcases hp with rfl | rfl
   ·exact h43n
   ·exact h44c
  ·intro l o hd
   simp only [dec42c] at hd
   split at hd
   rotate_left
   ·cases hd
   split at hd
   rotate_left
   ·cases hd
   split at hd
   rotate_left
   ·cases hd
   ·rename_i heqd
    have hd0 := congrArg (fun c : List (List TV) => c.getD 0 []) heqd
    have hd1 := congrArg (fun c : List (List TV) => c.getD 1 []) heqd
    obtain rfl := oij hd; exact ⟨TV.sim_refl _, ⟨rfl, TO.sim_refl _, rfl, TO.sim_refl _, rfl, TO.sim_refl _, rfl, TO.sim_refl _, rfl, TO.sim_refl _, rfl, TO.sim_rcd ⟨TV.sim_symm (TV.sim_fn hd0), trivial⟩, rfl, TO.sim_refl _, rfl, TO.sim_rcd ⟨TV.sim_symm (TV.sim_fn hd1), trivial⟩, trivial⟩⟩
def E16 (W : RgmT4) (X : RgmT0) (a42c : RgmT21) : Env := mkE TI TY [(40, F40 W), (41, F41 X), (42, F42c a42c)] nrc nfz
noncomputable def c16 : Code := bodyOf Try.f16
def lv16 : Nat → Option Norm := norms []
def en16 : End := ⟨[(49, .sl (.int .i64))], ⟨[49, 50], [], [], []⟩⟩
def dec16 (l : List TV) (o : List (Nat × TO)) : Option (List Int × Int) := match l, o with | [.dv (.sl (.int .i64)) x0, .dv (.int .i64) x1], [] => some (x0, x1) | _, _ => none
def m16 (W : RgmT4) (X : RgmT0) (a42c : RgmT21) (N : Nat) (r0 : Int × Int × List rmZ1 × Unit) (zb : Int) : Option (List Int × Int) :=
   (W r0).bind fun r1 =>
   cond (r1 != (0 : Int)) (some (([] : List Int), r1))
   ((X (0 : Int) zb (w64 ((r0.2.2.1.length : Int) - (1 : Int)))).bind fun r2 =>
   cond (!r2) (some (([] : List Int), (5 : Int)))
   (chk (decide (0 ≤ zb ∧ zb < (r0.2.2.1.length : Int))) (chk (decide (0 ≤ zb ∧ zb < (r0.2.2.1.length : Int))) ((a42c ((r0.2.2.1.getD zb.toNat rmZ0).1) (none : Option (List Int)) ([rmZ3] : List (List Bool)) ([r0] : List rmZ4) zb ([([rmZ3, rmZ3, rmZ3, rmZ3, rmZ3, rmZ3] : List (List Bool))] : List (List (List Bool))) ([rmZ3] : List (List Bool)) (((r0.2.2.1.getD zb.toNat rmZ0).2).1)).bind fun r3 =>
   cond (r3.1.isNone) (some (([] : List Int), (14 : Int)))
   (some (r3.1.getD [], (0 : Int)))))))
theorem k16 (W : RgmT4) (X : RgmT0) (a42c : RgmT21) (N : Nat) (r0 : Int × Int × List rmZ1 × Unit) (zb : Int) : callF (E16 W X a42c) lv16 N en16 c16 (resOf Try.f16) 47 [.dv rmZ2 r0, .dv (.int .i64) zb] [] dec16 = m16 W X a42c N r0 zb := by kernel_rfl
theorem ok16 (W : RgmT4) (X : RgmT0) (a42c : RgmT21) (h40 : FnOk Try.prog 40 (F40 W)) (h41 : FnOk Try.prog 41 (F41 X)) (h42c : FnOk Try.prog 42 (F42c a42c)) (a : rmZ4 → Int → Option (List Int × Int)) (h : ∀ r0 zb r, a r0 zb = some r → (∃ N, m16 W X a42c N r0 zb = some r)) : FnOk Try.prog 16 (F16 a) := by
 intro args Of x hx
 simp only [F16] at hx
 split at hx
 ·rename_i r0 zb
  obtain ⟨N, hN⟩ := h _ _ _ hx
  refine lifted (L := [(40, F40 W), (41, F41 X), (42, F42c a42c)]) (rc := nrc) (fz := nfz) (fn := Try.f16) (by kernel_rfl) (by kernel_rfl) (by kernel_rfl) (by kernel_rfl) rfl ?_ ((k16 W X a42c N _ _).trans hN) ?_
  ·intro p hp; simp only [List.mem_cons, List.not_mem_nil, or_false] at hp; rcases hp with rfl | rfl | rfl
   ·exact h40
   ·exact h41
   ·exact h42c
  ·intro l o hd
   simp only [dec16] at hd
   split at hd
   ·obtain rfl := oij hd; exact ⟨rfl, rfl⟩
   ·cases hd
 ·cases hx
def E4 (B : RgmT7) (D : RgmT24) (G : RgmT25) (H : RgmT26) (J : RgmT27) (K : RgmT28) (M : RgmT29) (C : RgmT30) : Env := mkE TI TY [(10, F10 B), (11, F11 D), (12, F12 G), (13, F13 H), (14, F14 J), (15, F15 K), (16, F16 M), (17, F17 C)] (fun i => ([(15, [some (.int .i64), some (.int .i64), none]), (63, [some (.int .i64), some (.int .i64), none])] : List (Nat × List (Option DT))).lookup i) nfz
noncomputable def c4 : Code := bodyOf Try.f4
def nm4_0 : Norm := ⟨[11, 12, 13, 14, 15, 16, 67, 68], [15, 65], [(.fld 15 2, 2100, .pair (.int .i64) (.pair (.int .i64) (.pair (.int .i64) (.unit))))], []⟩
def nm4_1 : Norm := ⟨[11, 12, 13, 14, 15, 16, 17, 67, 68, 74, 75, 76], [15, 65], [(.fld 15 2, 2100, .pair (.int .i64) (.pair (.int .i64) (.pair (.int .i64) (.unit))))], []⟩
def nm4_2 : Norm := ⟨[11, 12, 13, 14, 15, 16, 17, 18, 67, 68, 74, 75, 76, 101, 102], [15, 65, 95], [], []⟩
def nm4_3 : Norm := ⟨[15, 16, 21, 22, 124, 125], [15, 65, 122, 2100], [], []⟩
def nm4_4 : Norm := ⟨[15, 16, 21, 22, 24, 124, 125], [15, 65, 122, 2100], [], []⟩
def nm4_5 : Norm := ⟨[15, 21, 194, 195], [15, 2100], [], []⟩
def lv4 : Nat → Option Norm := norms [(10, nm4_0), (13, nm4_1), (19, nm4_2), (29, nm4_3), (34, nm4_4), (44, nm4_5)]
def en4 : End := ⟨[], ⟨[234], [], [], []⟩⟩
def dec4 (l : List TV) (o : List (Nat × TO)) : Option (Bool) := match l, o with | [.dv (.bool) x0], [] => some (x0) | _, _ => none
def Sl4c (base0 : Int) (one3 : Int) (two4 : Int) (r1 : LL) (t68_a : Int) (t76_b : Int) (oA_b : RgmT14) (t102_c : Int) (o65_c : List Int) : TS := ⟨slots 234 [(11, .dv (.int .i64) (w64 ((2 : Int) + (Int.tmod (w64 (base0)) (5 : Int))))), (12, .dv (.sl (.sl (.int .i64))) r1), (13, .dv (.int .i64) (Int.tmod (w64 (one3)) (w64 ((2 : Int) + (Int.tmod (w64 (base0)) (5 : Int)))))), (14, .dv (.int .i64) (Int.tmod (w64 ((w64 ((Int.tmod (w64 (one3)) (w64 ((2 : Int) + (Int.tmod (w64 (base0)) (5 : Int))))) + 1)) + (Int.tmod (w64 (two4)) (w64 ((w64 ((2 : Int) + (Int.tmod (w64 (base0)) (5 : Int)))) - (1 : Int)))))) (w64 ((2 : Int) + (Int.tmod (w64 (base0)) (5 : Int)))))), (15, .ptr 15 0 []), (16, .row 65), (17, .dv (.int .i64) t68_a), (18, .dv (.int .i64) t76_b), (67, .dv (.int .i64) (r1.length : Int)), (68, .dv (.int .i64) t68_a), (74, .dv (.sl (.int .i64)) (r1.getD t68_a.toNat ([] : List Int))), (75, .dv (.int .i64) ((r1.getD t68_a.toNat ([] : List Int)).length : Int)), (76, .dv (.int .i64) t76_b), (101, .dv (.int .i64) (r1.length : Int)), (102, .dv (.int .i64) t102_c)], [(15, .rcd [.dv (.int .i64) (w64 ((2 : Int) + (Int.tmod (w64 (base0)) (5 : Int)))), .dv (.int .i64) (w64 ((2 : Int) + (Int.tmod (w64 (base0)) (5 : Int)))), .row 95]), (65, .row (.int .i64) o65_c), (95, .row rmZ5 (oA_b ++ ([(t68_a, (t76_b, ((0 : Int), ())))] : List rmZ1)))]⟩
def Sl4b (base0 : Int) (one3 : Int) (two4 : Int) (r1 : LL) (t68_a : Int) (t76_b : Int) (oA_b : RgmT14) (o65_b : List Int) : TS := ⟨slots 234 [(11, .dv (.int .i64) (w64 ((2 : Int) + (Int.tmod (w64 (base0)) (5 : Int))))), (12, .dv (.sl (.sl (.int .i64))) r1), (13, .dv (.int .i64) (Int.tmod (w64 (one3)) (w64 ((2 : Int) + (Int.tmod (w64 (base0)) (5 : Int)))))), (14, .dv (.int .i64) (Int.tmod (w64 ((w64 ((Int.tmod (w64 (one3)) (w64 ((2 : Int) + (Int.tmod (w64 (base0)) (5 : Int))))) + 1)) + (Int.tmod (w64 (two4)) (w64 ((w64 ((2 : Int) + (Int.tmod (w64 (base0)) (5 : Int)))) - (1 : Int)))))) (w64 ((2 : Int) + (Int.tmod (w64 (base0)) (5 : Int)))))), (15, .ptr 15 0 []), (16, .row 65), (17, .dv (.int .i64) t68_a), (67, .dv (.int .i64) (r1.length : Int)), (68, .dv (.int .i64) t68_a), (74, .dv (.sl (.int .i64)) (r1.getD t68_a.toNat ([] : List Int))), (75, .dv (.int .i64) ((r1.getD t68_a.toNat ([] : List Int)).length : Int)), (76, .dv (.int .i64) t76_b)], [(2100, .row rmZ5 oA_b), (15, .rcd [.dv (.int .i64) (w64 ((2 : Int) + (Int.tmod (w64 (base0)) (5 : Int)))), .dv (.int .i64) (w64 ((2 : Int) + (Int.tmod (w64 (base0)) (5 : Int)))), .row 2100]), (65, .row (.int .i64) o65_b)]⟩
def Sl4e (base0 : Int) (r1 : LL) (oA_a : RgmT14) (o65_a : List Int) (t125_d : Int) (zr_e : Int) (x24_e : Int) (o122_e : List Bool) : TS := ⟨slots 234 [(15, .ptr 15 0 []), (16, .row 65), (21, .dv (.int .i64) zr_e), (22, .row 122), (24, .dv (.int .i64) x24_e), (124, .dv (.int .i64) (r1.length : Int)), (125, .dv (.int .i64) t125_d)], [(15, .rcd [.dv (.int .i64) (w64 ((2 : Int) + (Int.tmod (w64 (base0)) (5 : Int)))), .dv (.int .i64) (w64 ((2 : Int) + (Int.tmod (w64 (base0)) (5 : Int)))), .row 2100]), (65, .row (.int .i64) o65_a), (122, .row (.bool) o122_e), (2100, .row rmZ5 oA_a)]⟩
def Sl4f (base0 : Int) (oA_a : RgmT14) (zr_d : Int) (t195_f : Int) : TS := ⟨slots 234 [(15, .ptr 15 0 []), (21, .dv (.int .i64) zr_d), (194, .dv (.int .i64) (oA_a.length : Int)), (195, .dv (.int .i64) t195_f)], [(15, .rcd [.dv (.int .i64) (w64 ((2 : Int) + (Int.tmod (w64 (base0)) (5 : Int)))), .dv (.int .i64) (w64 ((2 : Int) + (Int.tmod (w64 (base0)) (5 : Int)))), .row 2100]), (2100, .frz rmZ5 oA_a)]⟩
def Sl4d (base0 : Int) (r1 : LL) (oA_a : RgmT14) (o65_a : List Int) (zr_d : Int) (t125_d : Int) (o122_d : List Bool) : TS := ⟨slots 234 [(15, .ptr 15 0 []), (16, .row 65), (21, .dv (.int .i64) zr_d), (22, .row 122), (124, .dv (.int .i64) (r1.length : Int)), (125, .dv (.int .i64) t125_d)], [(15, .rcd [.dv (.int .i64) (w64 ((2 : Int) + (Int.tmod (w64 (base0)) (5 : Int)))), .dv (.int .i64) (w64 ((2 : Int) + (Int.tmod (w64 (base0)) (5 : Int)))), .row 2100]), (65, .row (.int .i64) o65_a), (122, .row (.bool) o122_d), (2100, .row rmZ5 oA_a)]⟩
def Sl4a (base0 : Int) (one3 : Int) (two4 : Int) (r1 : LL) (t68_a : Int) (oA_a : RgmT14) (o65_a : List Int) : TS := ⟨slots 234 [(11, .dv (.int .i64) (w64 ((2 : Int) + (Int.tmod (w64 (base0)) (5 : Int))))), (12, .dv (.sl (.sl (.int .i64))) r1), (13, .dv (.int .i64) (Int.tmod (w64 (one3)) (w64 ((2 : Int) + (Int.tmod (w64 (base0)) (5 : Int)))))), (14, .dv (.int .i64) (Int.tmod (w64 ((w64 ((Int.tmod (w64 (one3)) (w64 ((2 : Int) + (Int.tmod (w64 (base0)) (5 : Int))))) + 1)) + (Int.tmod (w64 (two4)) (w64 ((w64 ((2 : Int) + (Int.tmod (w64 (base0)) (5 : Int)))) - (1 : Int)))))) (w64 ((2 : Int) + (Int.tmod (w64 (base0)) (5 : Int)))))), (15, .ptr 15 0 []), (16, .row 65), (67, .dv (.int .i64) (r1.length : Int)), (68, .dv (.int .i64) t68_a)], [(2100, .row rmZ5 oA_a), (15, .rcd [.dv (.int .i64) (w64 ((2 : Int) + (Int.tmod (w64 (base0)) (5 : Int)))), .dv (.int .i64) (w64 ((2 : Int) + (Int.tmod (w64 (base0)) (5 : Int)))), .row 2100]), (65, .row (.int .i64) o65_a)]⟩
noncomputable def K4_0 (B : RgmT7) (D : RgmT24) (G : RgmT25) (H : RgmT26) (J : RgmT27) (K : RgmT28) (M : RgmT29) (C : RgmT30) (N : Nat) : Kont (Bool) := kont (E4 B D G H J K M C) lv4 N c4 [1, 1, 1, 1, 1, 1, 1, 1, 0, 1, 0] (fin TI en4 (resOf Try.f4) dec4)
noncomputable def R4_0 (B : RgmT7) (D : RgmT24) (G : RgmT25) (H : RgmT26) (J : RgmT27) (K : RgmT28) (M : RgmT29) (C : RgmT30) (N : Nat) (m : Nat) : TS → Option (Bool) := loopK (den (E4 B D G H J K M C) lv4 N (sub c4 [1, 1, 1, 1, 1, 1, 1, 1, 0, 1, 0, 0])) (TS.norm nm4_0) (K4_0 B D G H J K M C N) m
noncomputable def K4_1 (B : RgmT7) (D : RgmT24) (G : RgmT25) (H : RgmT26) (J : RgmT27) (K : RgmT28) (M : RgmT29) (C : RgmT30) (N : Nat) (T4_0 : RgmT31) : Kont (Bool) := kont (E4 B D G H J K M C) lv4 N (sub c4 [1, 1, 1, 1, 1, 1, 1, 1, 0, 1, 0, 0]) [1, 1, 0, 0, 1, 1, 0] (kloop (TS.norm nm4_0) (K4_0 B D G H J K M C N) T4_0)
noncomputable def R4_1 (B : RgmT7) (D : RgmT24) (G : RgmT25) (H : RgmT26) (J : RgmT27) (K : RgmT28) (M : RgmT29) (C : RgmT30) (N : Nat) (T4_0 : RgmT31) (m : Nat) : TS → Option (Bool) := loopK (den (E4 B D G H J K M C) lv4 N (sub c4 [1, 1, 1, 1, 1, 1, 1, 1, 0, 1, 0, 0, 1, 1, 0, 0, 1, 1, 0, 0])) (TS.norm nm4_1) (K4_1 B D G H J K M C N T4_0) m
noncomputable def K4_2 (B : RgmT7) (D : RgmT24) (G : RgmT25) (H : RgmT26) (J : RgmT27) (K : RgmT28) (M : RgmT29) (C : RgmT30) (N : Nat) (T4_0 : RgmT31) (T4_1 : RgmT31) : Kont (Bool) := kont (E4 B D G H J K M C) lv4 N (sub c4 [1, 1, 1, 1, 1, 1, 1, 1, 0, 1, 0, 0, 1, 1, 0, 0, 1, 1, 0, 0]) [1, 1, 0, 0, 1, 1, 1, 1, 0, 1, 0] (kloop (TS.norm nm4_1) (K4_1 B D G H J K M C N T4_0) T4_1)
noncomputable def R4_2 (B : RgmT7) (D : RgmT24) (G : RgmT25) (H : RgmT26) (J : RgmT27) (K : RgmT28) (M : RgmT29) (C : RgmT30) (N : Nat) (T4_0 : RgmT31) (T4_1 : RgmT31) (m : Nat) : TS → Option (Bool) := loopK (den (E4 B D G H J K M C) lv4 N (sub c4 [1, 1, 1, 1, 1, 1, 1, 1, 0, 1, 0, 0, 1, 1, 0, 0, 1, 1, 0, 0, 1, 1, 0, 0, 1, 1, 1, 1, 0, 1, 0, 0])) (TS.norm nm4_2) (K4_2 B D G H J K M C N T4_0 T4_1) m
noncomputable def K4_3 (B : RgmT7) (D : RgmT24) (G : RgmT25) (H : RgmT26) (J : RgmT27) (K : RgmT28) (M : RgmT29) (C : RgmT30) (N : Nat) : Kont (Bool) := kont (E4 B D G H J K M C) lv4 N c4 [1, 1, 1, 1, 1, 1, 1, 1, 1, 1, 1, 0, 1, 0] (fin TI en4 (resOf Try.f4) dec4)
noncomputable def R4_3 (B : RgmT7) (D : RgmT24) (G : RgmT25) (H : RgmT26) (J : RgmT27) (K : RgmT28) (M : RgmT29) (C : RgmT30) (N : Nat) (m : Nat) : TS → Option (Bool) := loopK (den (E4 B D G H J K M C) lv4 N (sub c4 [1, 1, 1, 1, 1, 1, 1, 1, 1, 1, 1, 0, 1, 0, 0])) (TS.norm nm4_3) (K4_3 B D G H J K M C N) m
noncomputable def K4_4 (B : RgmT7) (D : RgmT24) (G : RgmT25) (H : RgmT26) (J : RgmT27) (K : RgmT28) (M : RgmT29) (C : RgmT30) (N : Nat) (T4_3 : RgmT31) : Kont (Bool) := kont (E4 B D G H J K M C) lv4 N (sub c4 [1, 1, 1, 1, 1, 1, 1, 1, 1, 1, 1, 0, 1, 0, 0]) [1, 1, 0, 0, 1, 1, 1, 0] (kloop (TS.norm nm4_3) (K4_3 B D G H J K M C N) T4_3)
noncomputable def R4_4 (B : RgmT7) (D : RgmT24) (G : RgmT25) (H : RgmT26) (J : RgmT27) (K : RgmT28) (M : RgmT29) (C : RgmT30) (N : Nat) (T4_3 : RgmT31) (m : Nat) : TS → Option (Bool) := loopK (den (E4 B D G H J K M C) lv4 N (sub c4 [1, 1, 1, 1, 1, 1, 1, 1, 1, 1, 1, 0, 1, 0, 0, 1, 1, 0, 0, 1, 1, 1, 0, 0])) (TS.norm nm4_4) (K4_4 B D G H J K M C N T4_3) m
noncomputable def K4_5 (B : RgmT7) (D : RgmT24) (G : RgmT25) (H : RgmT26) (J : RgmT27) (K : RgmT28) (M : RgmT29) (C : RgmT30) (N : Nat) : Kont (Bool) := kont (E4 B D G H J K M C) lv4 N c4 [1, 1, 1, 1, 1, 1, 1, 1, 1, 1, 1, 1, 1, 1, 1, 1, 0, 1, 0] (fin TI en4 (resOf Try.f4) dec4)
noncomputable def R4_5 (B : RgmT7) (D : RgmT24) (G : RgmT25) (H : RgmT26) (J : RgmT27) (K : RgmT28) (M : RgmT29) (C : RgmT30) (N : Nat) (m : Nat) : TS → Option (Bool) := loopK (den (E4 B D G H J K M C) lv4 N (sub c4 [1, 1, 1, 1, 1, 1, 1, 1, 1, 1, 1, 1, 1, 1, 1, 1, 0, 1, 0, 0])) (TS.norm nm4_5) (K4_5 B D G H J K M C N) m
def l4c (B : RgmT7) (D : RgmT24) (G : RgmT25) (H : RgmT26) (J : RgmT27) (K : RgmT28) (M : RgmT29) (C : RgmT30) (N : Nat) (base0 : Int) (one3 : Int) (two4 : Int) (r1 : LL) (t68_a : Int) (t76_b : Int) (oA_b : RgmT14) (l4b' : Int → (List rmZ1) → (List Int) → Option (Bool)) : Nat → Int → (List Int) → Option (Bool)
 | 0, _, _ => none
 | n + 1, t102_c, o65_c => cond (decide (t102_c < (r1.length : Int))) (chk (decide (0 ≤ t102_c ∧ t102_c < (r1.length : Int))) (chk (decide (0 ≤ t76_b ∧ t76_b < ((r1.getD t102_c.toNat ([] : List Int)).length : Int))) (cond (((r1.getD t102_c.toNat ([] : List Int)).getD t76_b.toNat 0) == (Int.tmod (w64 ((w64 ((Int.tmod (w64 (one3)) (w64 ((2 : Int) + (Int.tmod (w64 (base0)) (5 : Int))))) + 1)) + (Int.tmod (w64 (two4)) (w64 ((w64 ((2 : Int) + (Int.tmod (w64 (base0)) (5 : Int)))) - (1 : Int)))))) (w64 ((2 : Int) + (Int.tmod (w64 (base0)) (5 : Int)))))) (chk (decide (0 ≤ t68_a ∧ t68_a < (o65_c.length : Int))) ((l4c B D G H J K M C N base0 one3 two4 r1 t68_a t76_b oA_b l4b' n (w64 (t102_c + 1)) (o65_c.set t68_a.toNat t102_c))))
   ((l4c B D G H J K M C N base0 one3 two4 r1 t68_a t76_b oA_b l4b' n (w64 (t102_c + 1)) o65_c)))))
   ((l4b' (w64 (t76_b + 1)) (oA_b ++ ([(t68_a, (t76_b, ((0 : Int), ())))] : List rmZ1)) o65_c))
theorem wl4c (B : RgmT7) (D : RgmT24) (G : RgmT25) (H : RgmT26) (J : RgmT27) (K : RgmT28) (M : RgmT29) (C : RgmT30) (N : Nat) (base0 : Int) (one3 : Int) (two4 : Int) (r1 : LL) (t68_a : Int) (t76_b : Int) (oA_b : RgmT14) (T4_0 : RgmT31) (T4_1 : RgmT31) (m : Nat) (t102_c : Int) (o65_c : List Int) : R4_2 B D G H J K M C N T4_0 T4_1 (m + 1) (Sl4c base0 one3 two4 r1 t68_a t76_b oA_b t102_c o65_c) = cond (decide (t102_c < (r1.length : Int))) (chk (decide (0 ≤ t102_c ∧ t102_c < (r1.length : Int))) (chk (decide (0 ≤ t76_b ∧ t76_b < ((r1.getD t102_c.toNat ([] : List Int)).length : Int))) (cond (((r1.getD t102_c.toNat ([] : List Int)).getD t76_b.toNat 0) == (Int.tmod (w64 ((w64 ((Int.tmod (w64 (one3)) (w64 ((2 : Int) + (Int.tmod (w64 (base0)) (5 : Int))))) + 1)) + (Int.tmod (w64 (two4)) (w64 ((w64 ((2 : Int) + (Int.tmod (w64 (base0)) (5 : Int)))) - (1 : Int)))))) (w64 ((2 : Int) + (Int.tmod (w64 (base0)) (5 : Int)))))) (chk (decide (0 ≤ t68_a ∧ t68_a < (o65_c.length : Int))) ((R4_2 B D G H J K M C N T4_0 T4_1 m (Sl4c base0 one3 two4 r1 t68_a t76_b oA_b (w64 (t102_c + 1)) (o65_c.set t68_a.toNat t102_c)))))
   ((R4_2 B D G H J K M C N T4_0 T4_1 m (Sl4c base0 one3 two4 r1 t68_a t76_b oA_b (w64 (t102_c + 1)) o65_c))))))
   ((T4_1 (Sl4b base0 one3 two4 r1 t68_a (w64 (t76_b + 1)) (oA_b ++ ([(t68_a, (t76_b, ((0 : Int), ())))] : List rmZ1)) o65_c))) := by kernel_rfl
theorem ql4c (B : RgmT7) (D : RgmT24) (G : RgmT25) (H : RgmT26) (J : RgmT27) (K : RgmT28) (M : RgmT29) (C : RgmT30) (N : Nat) (base0 : Int) (one3 : Int) (two4 : Int) (r1 : LL) (t68_a : Int) (t76_b : Int) (oA_b : RgmT14) (T4_0 : RgmT31) (T4_1 : RgmT31) : ∀ (m : Nat) (t102_c : Int) (o65_c : List Int), R4_2 B D G H J K M C N T4_0 T4_1 m (Sl4c base0 one3 two4 r1 t68_a t76_b oA_b t102_c o65_c) = l4c B D G H J K M C N base0 one3 two4 r1 t68_a t76_b oA_b (fun y0 y1 y2 => T4_1 (Sl4b base0 one3 two4 r1 t68_a y0 y1 y2)) m t102_c o65_c
        | 0, _, _ => rfl
        | m + 1, t102_c, o65_c => by rw [wl4c]; simp only [l4c, ql4c B D G H J K M C N base0 one3 two4 r1 t68_a t76_b oA_b T4_0 T4_1 m]
def l4b (B : RgmT7) (D : RgmT24) (G : RgmT25) (H : RgmT26) (J : RgmT27) (K : RgmT28) (M : RgmT29) (C : RgmT30) (N : Nat) (base0 : Int) (one3 : Int) (two4 : Int) (r1 : LL) (t68_a : Int) (l4a' : Int → (List rmZ1) → (List Int) → Option (Bool)) : Nat → Int → (List rmZ1) → (List Int) → Option (Bool)
 | 0, _, _, _ => none
 | n + 1, t76_b, oA_b, o65_b => cond (decide (t76_b < ((r1.getD t68_a.toNat ([] : List Int)).length : Int))) (chk (decide (0 ≤ t76_b ∧ t76_b < ((r1.getD t68_a.toNat ([] : List Int)).length : Int))) (cond (((r1.getD t68_a.toNat ([] : List Int)).getD t76_b.toNat 0) != (Int.tmod (w64 (one3)) (w64 ((2 : Int) + (Int.tmod (w64 (base0)) (5 : Int)))))) (cond (((r1.getD t68_a.toNat ([] : List Int)).getD t76_b.toNat 0) != (Int.tmod (w64 ((w64 ((Int.tmod (w64 (one3)) (w64 ((2 : Int) + (Int.tmod (w64 (base0)) (5 : Int))))) + 1)) + (Int.tmod (w64 (two4)) (w64 ((w64 ((2 : Int) + (Int.tmod (w64 (base0)) (5 : Int)))) - (1 : Int)))))) (w64 ((2 : Int) + (Int.tmod (w64 (base0)) (5 : Int)))))) ((l4b B D G H J K M C N base0 one3 two4 r1 t68_a l4a' n (w64 (t76_b + 1)) oA_b o65_b))
   (chk (small (oA_b.length + 1) 24) (cond (((r1.getD t68_a.toNat ([] : List Int)).getD t76_b.toNat 0) == (Int.tmod (w64 (one3)) (w64 ((2 : Int) + (Int.tmod (w64 (base0)) (5 : Int)))))) ((l4c B D G H J K M C N base0 one3 two4 r1 t68_a t76_b oA_b (fun y0 y1 y2 => (l4b B D G H J K M C N base0 one3 two4 r1 t68_a l4a' n y0 y1 y2)) N (0 : Int) o65_b))
   ((l4b B D G H J K M C N base0 one3 two4 r1 t68_a l4a' n (w64 (t76_b + 1)) (oA_b ++ ([(t68_a, (t76_b, ((0 : Int), ())))] : List rmZ1)) o65_b)))))
   (chk (small (oA_b.length + 1) 24) (cond (((r1.getD t68_a.toNat ([] : List Int)).getD t76_b.toNat 0) == (Int.tmod (w64 (one3)) (w64 ((2 : Int) + (Int.tmod (w64 (base0)) (5 : Int)))))) ((l4c B D G H J K M C N base0 one3 two4 r1 t68_a t76_b oA_b (fun y0 y1 y2 => (l4b B D G H J K M C N base0 one3 two4 r1 t68_a l4a' n y0 y1 y2)) N (0 : Int) o65_b))
   ((l4b B D G H J K M C N base0 one3 two4 r1 t68_a l4a' n (w64 (t76_b + 1)) (oA_b ++ ([(t68_a, (t76_b, ((0 : Int), ())))] : List rmZ1)) o65_b))))))
   ((l4a' (w64 (t68_a + 1)) oA_b o65_b))
theorem wl4b (B : RgmT7) (D : RgmT24) (G : RgmT25) (H : RgmT26) (J : RgmT27) (K : RgmT28) (M : RgmT29) (C : RgmT30) (N : Nat) (base0 : Int) (one3 : Int) (two4 : Int) (r1 : LL) (t68_a : Int) (T4_0 : RgmT31) (m : Nat) (t76_b : Int) (oA_b : RgmT14) (o65_b : List Int) : R4_1 B D G H J K M C N T4_0 (m + 1) (Sl4b base0 one3 two4 r1 t68_a t76_b oA_b o65_b) = cond (decide (t76_b < ((r1.getD t68_a.toNat ([] : List Int)).length : Int))) (chk (decide (0 ≤ t76_b ∧ t76_b < ((r1.getD t68_a.toNat ([] : List Int)).length : Int))) (cond (((r1.getD t68_a.toNat ([] : List Int)).getD t76_b.toNat 0) != (Int.tmod (w64 (one3)) (w64 ((2 : Int) + (Int.tmod (w64 (base0)) (5 : Int)))))) (cond (((r1.getD t68_a.toNat ([] : List Int)).getD t76_b.toNat 0) != (Int.tmod (w64 ((w64 ((Int.tmod (w64 (one3)) (w64 ((2 : Int) + (Int.tmod (w64 (base0)) (5 : Int))))) + 1)) + (Int.tmod (w64 (two4)) (w64 ((w64 ((2 : Int) + (Int.tmod (w64 (base0)) (5 : Int)))) - (1 : Int)))))) (w64 ((2 : Int) + (Int.tmod (w64 (base0)) (5 : Int)))))) ((R4_1 B D G H J K M C N T4_0 m (Sl4b base0 one3 two4 r1 t68_a (w64 (t76_b + 1)) oA_b o65_b)))
   (chk (small (oA_b.length + 1) 24) (cond (((r1.getD t68_a.toNat ([] : List Int)).getD t76_b.toNat 0) == (Int.tmod (w64 (one3)) (w64 ((2 : Int) + (Int.tmod (w64 (base0)) (5 : Int)))))) ((R4_2 B D G H J K M C N T4_0 (R4_1 B D G H J K M C N T4_0 m) N (Sl4c base0 one3 two4 r1 t68_a t76_b oA_b (0 : Int) o65_b)))
   ((R4_1 B D G H J K M C N T4_0 m (Sl4b base0 one3 two4 r1 t68_a (w64 (t76_b + 1)) (oA_b ++ ([(t68_a, (t76_b, ((0 : Int), ())))] : List rmZ1)) o65_b))))))
   (chk (small (oA_b.length + 1) 24) (cond (((r1.getD t68_a.toNat ([] : List Int)).getD t76_b.toNat 0) == (Int.tmod (w64 (one3)) (w64 ((2 : Int) + (Int.tmod (w64 (base0)) (5 : Int)))))) ((R4_2 B D G H J K M C N T4_0 (R4_1 B D G H J K M C N T4_0 m) N (Sl4c base0 one3 two4 r1 t68_a t76_b oA_b (0 : Int) o65_b)))
   ((R4_1 B D G H J K M C N T4_0 m (Sl4b base0 one3 two4 r1 t68_a (w64 (t76_b + 1)) (oA_b ++ ([(t68_a, (t76_b, ((0 : Int), ())))] : List rmZ1)) o65_b)))))))
   ((T4_0 (Sl4a base0 one3 two4 r1 (w64 (t68_a + 1)) oA_b o65_b))) := by kernel_rfl
theorem ql4b (B : RgmT7) (D : RgmT24) (G : RgmT25) (H : RgmT26) (J : RgmT27) (K : RgmT28) (M : RgmT29) (C : RgmT30) (N : Nat) (base0 : Int) (one3 : Int) (two4 : Int) (r1 : LL) (t68_a : Int) (T4_0 : RgmT31) : ∀ (m : Nat) (t76_b : Int) (oA_b : RgmT14) (o65_b : List Int), R4_1 B D G H J K M C N T4_0 m (Sl4b base0 one3 two4 r1 t68_a t76_b oA_b o65_b) = l4b B D G H J K M C N base0 one3 two4 r1 t68_a (fun y0 y1 y2 => T4_0 (Sl4a base0 one3 two4 r1 y0 y1 y2)) m t76_b oA_b o65_b
        | 0, _, _, _ => rfl
        | m + 1, t76_b, oA_b, o65_b => by rw [wl4b]; simp only [l4b, ql4c, ql4b B D G H J K M C N base0 one3 two4 r1 t68_a T4_0 m]
def l4e (B : RgmT7) (D : RgmT24) (G : RgmT25) (H : RgmT26) (J : RgmT27) (K : RgmT28) (M : RgmT29) (C : RgmT30) (N : Nat) (base0 : Int) (r1 : LL) (oA_a : RgmT14) (o65_a : List Int) (t125_d : Int) (l4d' : Int → Int → (List Bool) → Option (Bool)) : Nat → Int → Int → (List Bool) → Option (Bool)
 | 0, _, _, _ => none
 | n + 1, zr_e, x24_e, o122_e => chk (decide (0 ≤ x24_e ∧ x24_e < (o122_e.length : Int))) (cond (!(o122_e.getD x24_e.toNat false)) (chk (decide (0 ≤ x24_e ∧ x24_e < (o122_e.length : Int))) (chk (decide (0 ≤ x24_e ∧ x24_e < (o65_a.length : Int))) ((l4e B D G H J K M C N base0 r1 oA_a o65_a t125_d l4d' n zr_e (o65_a.getD x24_e.toNat 0) (o122_e.set x24_e.toNat true)))))
   ((l4d' zr_e (w64 (t125_d + 1)) o122_e)))
theorem wl4e (B : RgmT7) (D : RgmT24) (G : RgmT25) (H : RgmT26) (J : RgmT27) (K : RgmT28) (M : RgmT29) (C : RgmT30) (N : Nat) (base0 : Int) (r1 : LL) (oA_a : RgmT14) (o65_a : List Int) (t125_d : Int) (T4_3 : RgmT31) (m : Nat) (zr_e : Int) (x24_e : Int) (o122_e : List Bool) : R4_4 B D G H J K M C N T4_3 (m + 1) (Sl4e base0 r1 oA_a o65_a t125_d zr_e x24_e o122_e) = chk (decide (0 ≤ x24_e ∧ x24_e < (o122_e.length : Int))) (cond (!(o122_e.getD x24_e.toNat false)) (chk (decide (0 ≤ x24_e ∧ x24_e < (o122_e.length : Int))) (chk (decide (0 ≤ x24_e ∧ x24_e < (o65_a.length : Int))) ((R4_4 B D G H J K M C N T4_3 m (Sl4e base0 r1 oA_a o65_a t125_d zr_e (o65_a.getD x24_e.toNat 0) (o122_e.set x24_e.toNat true))))))
   ((T4_3 (Sl4d base0 r1 oA_a o65_a zr_e (w64 (t125_d + 1)) o122_e)))) := by kernel_rfl
theorem ql4e (B : RgmT7) (D : RgmT24) (G : RgmT25) (H : RgmT26) (J : RgmT27) (K : RgmT28) (M : RgmT29) (C : RgmT30) (N : Nat) (base0 : Int) (r1 : LL) (oA_a : RgmT14) (o65_a : List Int) (t125_d : Int) (T4_3 : RgmT31) : ∀ (m : Nat) (zr_e : Int) (x24_e : Int) (o122_e : List Bool), R4_4 B D G H J K M C N T4_3 m (Sl4e base0 r1 oA_a o65_a t125_d zr_e x24_e o122_e) = l4e B D G H J K M C N base0 r1 oA_a o65_a t125_d (fun y0 y1 y2 => T4_3 (Sl4d base0 r1 oA_a o65_a y0 y1 y2)) m zr_e x24_e o122_e
        | 0, _, _, _ => rfl
        | m + 1, zr_e, x24_e, o122_e => by rw [wl4e]; simp only [l4e, ql4e B D G H J K M C N base0 r1 oA_a o65_a t125_d T4_3 m]
def l4f (B : RgmT7) (D : RgmT24) (G : RgmT25) (H : RgmT26) (J : RgmT27) (K : RgmT28) (M : RgmT29) (C : RgmT30) (N : Nat) (base0 : Int) (oA_a : RgmT14) (zr_d : Int) : Nat → Int → Option (Bool)
 | 0, _ => none
 | n + 1, t195_f => cond (decide (t195_f < (oA_a.length : Int))) ((M (w64 ((2 : Int) + (Int.tmod (w64 (base0)) (5 : Int))), (w64 ((2 : Int) + (Int.tmod (w64 (base0)) (5 : Int))), (oA_a, ()))) t195_f).bind fun r6 =>
   cond (r6.2 != (0 : Int)) (some false)
   (cond ((r6.1.length : Int) == (0 : Int)) (some false)
   ((l4f B D G H J K M C N base0 oA_a zr_d n (w64 (t195_f + 1))))))
   ((D (w64 ((2 : Int) + (Int.tmod (w64 (base0)) (5 : Int))), (w64 ((2 : Int) + (Int.tmod (w64 (base0)) (5 : Int))), (oA_a, ())))).bind fun r7 =>
   cond (decide (zr_d > (1 : Int))) (cond (r7.2 == (22 : Int)) ((C).bind fun r8 =>
   some r8)
   (some false))
   (cond (r7.2 == (0 : Int)) (cond ((r7.1.length : Int) == (0 : Int)) ((C).bind fun r9 =>
   some r9)
   (some false))
   (some false)))
theorem wl4f (B : RgmT7) (D : RgmT24) (G : RgmT25) (H : RgmT26) (J : RgmT27) (K : RgmT28) (M : RgmT29) (C : RgmT30) (N : Nat) (base0 : Int) (oA_a : RgmT14) (zr_d : Int) (m : Nat) (t195_f : Int) : R4_5 B D G H J K M C N (m + 1) (Sl4f base0 oA_a zr_d t195_f) = cond (decide (t195_f < (oA_a.length : Int))) ((M (w64 ((2 : Int) + (Int.tmod (w64 (base0)) (5 : Int))), (w64 ((2 : Int) + (Int.tmod (w64 (base0)) (5 : Int))), (oA_a, ()))) t195_f).bind fun r6 =>
   cond (r6.2 != (0 : Int)) (some false)
   (cond ((r6.1.length : Int) == (0 : Int)) (some false)
   ((R4_5 B D G H J K M C N m (Sl4f base0 oA_a zr_d (w64 (t195_f + 1)))))))
   ((D (w64 ((2 : Int) + (Int.tmod (w64 (base0)) (5 : Int))), (w64 ((2 : Int) + (Int.tmod (w64 (base0)) (5 : Int))), (oA_a, ())))).bind fun r7 =>
   cond (decide (zr_d > (1 : Int))) (cond (r7.2 == (22 : Int)) ((C).bind fun r8 =>
   some r8)
   (some false))
   (cond (r7.2 == (0 : Int)) (cond ((r7.1.length : Int) == (0 : Int)) ((C).bind fun r9 =>
   some r9)
   (some false))
   (some false))) := by kernel_rfl
theorem ql4f (B : RgmT7) (D : RgmT24) (G : RgmT25) (H : RgmT26) (J : RgmT27) (K : RgmT28) (M : RgmT29) (C : RgmT30) (N : Nat) (base0 : Int) (oA_a : RgmT14) (zr_d : Int) : ∀ (m : Nat) (t195_f : Int), R4_5 B D G H J K M C N m (Sl4f base0 oA_a zr_d t195_f) = l4f B D G H J K M C N base0 oA_a zr_d m t195_f
        | 0, _ => rfl
        | m + 1, t195_f => by rw [wl4f]; simp only [l4f, ql4f B D G H J K M C N base0 oA_a zr_d m]
def l4d (B : RgmT7) (D : RgmT24) (G : RgmT25) (H : RgmT26) (J : RgmT27) (K : RgmT28) (M : RgmT29) (C : RgmT30) (N : Nat) (base0 : Int) (r1 : LL) (oA_a : RgmT14) (o65_a : List Int) : Nat → Int → Int → (List Bool) → Option (Bool)
 | 0, _, _, _ => none
 | n + 1, zr_d, t125_d, o122_d => cond (decide (t125_d < (r1.length : Int))) (chk (decide (0 ≤ t125_d ∧ t125_d < (o122_d.length : Int))) (cond (!(o122_d.getD t125_d.toNat false)) ((l4e B D G H J K M C N base0 r1 oA_a o65_a t125_d (fun y0 y1 y2 => (l4d B D G H J K M C N base0 r1 oA_a o65_a n y0 y1 y2)) N (w64 (zr_d + 1)) t125_d o122_d))
   ((l4e B D G H J K M C N base0 r1 oA_a o65_a t125_d (fun y0 y1 y2 => (l4d B D G H J K M C N base0 r1 oA_a o65_a n y0 y1 y2)) N zr_d t125_d o122_d))))
   ((J (w64 ((2 : Int) + (Int.tmod (w64 (base0)) (5 : Int))), (w64 ((2 : Int) + (Int.tmod (w64 (base0)) (5 : Int))), (oA_a, ())))).bind fun r3 =>
   (K (w64 ((2 : Int) + (Int.tmod (w64 (base0)) (5 : Int))), (w64 ((2 : Int) + (Int.tmod (w64 (base0)) (5 : Int))), (oA_a, ())))).bind fun r4 =>
   (B (w64 ((2 : Int) + (Int.tmod (w64 (base0)) (5 : Int))), (w64 ((2 : Int) + (Int.tmod (w64 (base0)) (5 : Int))), (oA_a, ())))).bind fun r5 =>
   cond (r3.2 != (0 : Int)) (some false)
   (cond (r4.2 != (0 : Int)) (some false)
   (cond (r5.2 != (0 : Int)) (some false)
   (cond (r3.1 != (w64 (zr_d - (1 : Int)))) (some false)
   (cond ((r4.1.length : Int) != zr_d) (some false)
   (cond (r5.1 != (zr_d == (1 : Int))) (some false)
   ((l4f B D G H J K M C N base0 oA_a zr_d N (0 : Int)))))))))
theorem wl4d (B : RgmT7) (D : RgmT24) (G : RgmT25) (H : RgmT26) (J : RgmT27) (K : RgmT28) (M : RgmT29) (C : RgmT30) (N : Nat) (base0 : Int) (r1 : LL) (oA_a : RgmT14) (o65_a : List Int) (m : Nat) (zr_d : Int) (t125_d : Int) (o122_d : List Bool) : R4_3 B D G H J K M C N (m + 1) (Sl4d base0 r1 oA_a o65_a zr_d t125_d o122_d) = cond (decide (t125_d < (r1.length : Int))) (chk (decide (0 ≤ t125_d ∧ t125_d < (o122_d.length : Int))) (cond (!(o122_d.getD t125_d.toNat false)) ((R4_4 B D G H J K M C N (R4_3 B D G H J K M C N m) N (Sl4e base0 r1 oA_a o65_a t125_d (w64 (zr_d + 1)) t125_d o122_d)))
   ((R4_4 B D G H J K M C N (R4_3 B D G H J K M C N m) N (Sl4e base0 r1 oA_a o65_a t125_d zr_d t125_d o122_d)))))
   ((J (w64 ((2 : Int) + (Int.tmod (w64 (base0)) (5 : Int))), (w64 ((2 : Int) + (Int.tmod (w64 (base0)) (5 : Int))), (oA_a, ())))).bind fun r3 =>
   (K (w64 ((2 : Int) + (Int.tmod (w64 (base0)) (5 : Int))), (w64 ((2 : Int) + (Int.tmod (w64 (base0)) (5 : Int))), (oA_a, ())))).bind fun r4 =>
   (B (w64 ((2 : Int) + (Int.tmod (w64 (base0)) (5 : Int))), (w64 ((2 : Int) + (Int.tmod (w64 (base0)) (5 : Int))), (oA_a, ())))).bind fun r5 =>
   cond (r3.2 != (0 : Int)) (some false)
   (cond (r4.2 != (0 : Int)) (some false)
   (cond (r5.2 != (0 : Int)) (some false)
   (cond (r3.1 != (w64 (zr_d - (1 : Int)))) (some false)
   (cond ((r4.1.length : Int) != zr_d) (some false)
   (cond (r5.1 != (zr_d == (1 : Int))) (some false)
   ((R4_5 B D G H J K M C N N (Sl4f base0 oA_a zr_d (0 : Int)))))))))) := by kernel_rfl
theorem ql4d (B : RgmT7) (D : RgmT24) (G : RgmT25) (H : RgmT26) (J : RgmT27) (K : RgmT28) (M : RgmT29) (C : RgmT30) (N : Nat) (base0 : Int) (r1 : LL) (oA_a : RgmT14) (o65_a : List Int) : ∀ (m : Nat) (zr_d : Int) (t125_d : Int) (o122_d : List Bool), R4_3 B D G H J K M C N m (Sl4d base0 r1 oA_a o65_a zr_d t125_d o122_d) = l4d B D G H J K M C N base0 r1 oA_a o65_a m zr_d t125_d o122_d
        | 0, _, _, _ => rfl
        | m + 1, zr_d, t125_d, o122_d => by rw [wl4d]; simp only [l4d, ql4e, ql4f, ql4d B D G H J K M C N base0 r1 oA_a o65_a m]
def l4a (B : RgmT7) (D : RgmT24) (G : RgmT25) (H : RgmT26) (J : RgmT27) (K : RgmT28) (M : RgmT29) (C : RgmT30) (N : Nat) (base0 : Int) (one3 : Int) (two4 : Int) (r1 : LL) : Nat → Int → (List rmZ1) → (List Int) → Option (Bool)
 | 0, _, _, _ => none
 | n + 1, t68_a, oA_a, o65_a => cond (decide (t68_a < (r1.length : Int))) (chk (decide (0 ≤ t68_a ∧ t68_a < (r1.length : Int))) ((l4b B D G H J K M C N base0 one3 two4 r1 t68_a (fun y0 y1 y2 => (l4a B D G H J K M C N base0 one3 two4 r1 n y0 y1 y2)) N (0 : Int) oA_a o65_a)))
   (chk (mkOk (w64 ((2 : Int) + (Int.tmod (w64 (base0)) (5 : Int)))) (w64 ((2 : Int) + (Int.tmod (w64 (base0)) (5 : Int)))) 1) ((l4d B D G H J K M C N base0 r1 oA_a o65_a N (0 : Int) (0 : Int) (List.replicate ((w64 ((2 : Int) + (Int.tmod (w64 (base0)) (5 : Int)))).toNat) false))))
theorem wl4a (B : RgmT7) (D : RgmT24) (G : RgmT25) (H : RgmT26) (J : RgmT27) (K : RgmT28) (M : RgmT29) (C : RgmT30) (N : Nat) (base0 : Int) (one3 : Int) (two4 : Int) (r1 : LL) (m : Nat) (t68_a : Int) (oA_a : RgmT14) (o65_a : List Int) : R4_0 B D G H J K M C N (m + 1) (Sl4a base0 one3 two4 r1 t68_a oA_a o65_a) = cond (decide (t68_a < (r1.length : Int))) (chk (decide (0 ≤ t68_a ∧ t68_a < (r1.length : Int))) ((R4_1 B D G H J K M C N (R4_0 B D G H J K M C N m) N (Sl4b base0 one3 two4 r1 t68_a (0 : Int) oA_a o65_a))))
   (chk (mkOk (w64 ((2 : Int) + (Int.tmod (w64 (base0)) (5 : Int)))) (w64 ((2 : Int) + (Int.tmod (w64 (base0)) (5 : Int)))) 1) ((R4_3 B D G H J K M C N N (Sl4d base0 r1 oA_a o65_a (0 : Int) (0 : Int) (List.replicate ((w64 ((2 : Int) + (Int.tmod (w64 (base0)) (5 : Int)))).toNat) false))))) := by kernel_rfl
theorem ql4a (B : RgmT7) (D : RgmT24) (G : RgmT25) (H : RgmT26) (J : RgmT27) (K : RgmT28) (M : RgmT29) (C : RgmT30) (N : Nat) (base0 : Int) (one3 : Int) (two4 : Int) (r1 : LL) : ∀ (m : Nat) (t68_a : Int) (oA_a : RgmT14) (o65_a : List Int), R4_0 B D G H J K M C N m (Sl4a base0 one3 two4 r1 t68_a oA_a o65_a) = l4a B D G H J K M C N base0 one3 two4 r1 m t68_a oA_a o65_a
        | 0, _, _, _ => rfl
        | m + 1, t68_a, oA_a, o65_a => by rw [wl4a]; simp only [l4a, ql4b, ql4d, ql4a B D G H J K M C N base0 one3 two4 r1 m]
def m4 (B : RgmT7) (D : RgmT24) (G : RgmT25) (H : RgmT26) (J : RgmT27) (K : RgmT28) (M : RgmT29) (C : RgmT30) (N : Nat) (base0 : Int) (rows1 : List Int) (zn : List Int) (one3 : Int) (two4 : Int) : Option (Bool) :=
   (G (w64 ((2 : Int) + (Int.tmod (w64 (base0)) (5 : Int)))) rows1 zn).bind fun r1 =>
   (H r1).bind fun r2 =>
   cond (r2 != (0 : Int)) (some false)
   (chk (decide (w64 ((2 : Int) + (Int.tmod (w64 (base0)) (5 : Int))) ≠ (0 : Int))) (chk (decide (w64 ((w64 ((2 : Int) + (Int.tmod (w64 (base0)) (5 : Int)))) - (1 : Int)) ≠ (0 : Int))) (chk (decide (w64 ((2 : Int) + (Int.tmod (w64 (base0)) (5 : Int))) ≠ (0 : Int))) (chk (mkOk (w64 ((2 : Int) + (Int.tmod (w64 (base0)) (5 : Int)))) (w64 ((2 : Int) + (Int.tmod (w64 (base0)) (5 : Int)))) 8) ((l4a B D G H J K M C N base0 one3 two4 r1 N (0 : Int) ([] : List rmZ1) (List.replicate ((w64 ((2 : Int) + (Int.tmod (w64 (base0)) (5 : Int)))).toNat) (0 : Int))))))))
theorem wm4 (B : RgmT7) (D : RgmT24) (G : RgmT25) (H : RgmT26) (J : RgmT27) (K : RgmT28) (M : RgmT29) (C : RgmT30) (N : Nat) (base0 : Int) (rows1 : List Int) (zn : List Int) (one3 : Int) (two4 : Int) : callF (E4 B D G H J K M C) lv4 N en4 c4 (resOf Try.f4) 229 [.dv (.int .u8) base0, .dv (.sl (.int .u8)) rows1, .dv (.sl (.int .u8)) zn, .dv (.int .u8) one3, .dv (.int .u8) two4] [] dec4 = (G (w64 ((2 : Int) + (Int.tmod (w64 (base0)) (5 : Int)))) rows1 zn).bind fun r1 =>
   (H r1).bind fun r2 =>
   cond (r2 != (0 : Int)) (some false)
   (chk (decide (w64 ((2 : Int) + (Int.tmod (w64 (base0)) (5 : Int))) ≠ (0 : Int))) (chk (decide (w64 ((w64 ((2 : Int) + (Int.tmod (w64 (base0)) (5 : Int)))) - (1 : Int)) ≠ (0 : Int))) (chk (decide (w64 ((2 : Int) + (Int.tmod (w64 (base0)) (5 : Int))) ≠ (0 : Int))) (chk (mkOk (w64 ((2 : Int) + (Int.tmod (w64 (base0)) (5 : Int)))) (w64 ((2 : Int) + (Int.tmod (w64 (base0)) (5 : Int)))) 8) ((R4_0 B D G H J K M C N N (Sl4a base0 one3 two4 r1 (0 : Int) ([] : List rmZ1) (List.replicate ((w64 ((2 : Int) + (Int.tmod (w64 (base0)) (5 : Int)))).toNat) (0 : Int))))))))) := by kernel_rfl
theorem k4 (B : RgmT7) (D : RgmT24) (G : RgmT25) (H : RgmT26) (J : RgmT27) (K : RgmT28) (M : RgmT29) (C : RgmT30) (N : Nat) (base0 : Int) (rows1 : List Int) (zn : List Int) (one3 : Int) (two4 : Int) : callF (E4 B D G H J K M C) lv4 N en4 c4 (resOf Try.f4) 229 [.dv (.int .u8) base0, .dv (.sl (.int .u8)) rows1, .dv (.sl (.int .u8)) zn, .dv (.int .u8) one3, .dv (.int .u8) two4] [] dec4 = m4 B D G H J K M C N base0 rows1 zn one3 two4 := by rw [wm4]; simp only [m4, ql4a]
theorem ok4 (B : RgmT7) (D : RgmT24) (G : RgmT25) (H : RgmT26) (J : RgmT27) (K : RgmT28) (M : RgmT29) (C : RgmT30) (h10 : FnOk Try.prog 10 (F10 B)) (h11 : FnOk Try.prog 11 (F11 D)) (h12 : FnOk Try.prog 12 (F12 G)) (h13 : FnOk Try.prog 13 (F13 H)) (h14 : FnOk Try.prog 14 (F14 J)) (h15 : FnOk Try.prog 15 (F15 K)) (h16 : FnOk Try.prog 16 (F16 M)) (h17 : FnOk Try.prog 17 (F17 C)) (a : Int → (List Int) → (List Int) → Int → Int → Option (Bool)) (h : ∀ base0 rows1 zn one3 two4 r, a base0 rows1 zn one3 two4 = some r → (∃ N, m4 B D G H J K M C N base0 rows1 zn one3 two4 = some r)) : FnOk Try.prog 4 (F4 a) := by
 intro args Of x hx
 simp only [F4] at hx
 split at hx
 ·rename_i base0 rows1 zn one3 two4
  obtain ⟨N, hN⟩ := h _ _ _ _ _ _ hx
  refine lifted (L := [(10, F10 B), (11, F11 D), (12, F12 G), (13, F13 H), (14, F14 J), (15, F15 K), (16, F16 M), (17, F17 C)]) (rc := (fun i => ([(15, [some (.int .i64), some (.int .i64), none]), (63, [some (.int .i64), some (.int .i64), none])] : List (Nat × List (Option DT))).lookup i)) (fz := nfz) (fn := Try.f4) (by kernel_rfl) (by kernel_rfl) (by kernel_rfl) (by kernel_rfl) rfl ?_ ((k4 B D G H J K M C N _ _ _ _ _).trans hN) ?_
  ·intro p hp; simp only [List.mem_cons, List.not_mem_nil, or_false] at hp; rcases hp with rfl | rfl | rfl | rfl | rfl | rfl | rfl | rfl
   ·exact h10
   ·exact h11
   ·exact h12
   ·exact h13
   ·exact h14
   ·exact h15
   ·exact h16
   ·exact h17
  ·intro l o hd
   simp only [dec4] at hd
   split at hd
   ·obtain rfl := oij hd; exact ⟨rfl, rfl⟩
   ·cases hd
 ·cases hx
end Go.Proofs.Ytplbdongegfdnaa
