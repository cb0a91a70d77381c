import Derived.Test.YtmpbbkldopfkpaaDoorQFI
namespace Go.Proofs.YtmpbbkldopfkpaaDoor
open Go.RowKit
set_option linter.unusedVariables false
abbrev Q21T0 := (Int × List (List Int) × Unit) → (List UInt8) → Option (Int)
abbrev Q21T1 := (Int × List (List Int) × Unit) → Int → Int → Option (Bool)
abbrev Q21T2 := Int → Int → Int → Option (Bool)
abbrev Q21T3 := Int × List (List Int) × Unit
def E21 (a44 : Q21T0) (a48 : Q21T1) (a52 : Q21T2) : Env := mkE TI TY [(44, F44 a44), (48, F48 a48), (52, F52 a52)] nrc nfz
noncomputable def c21 : Code := bodyOf Tryd.f21
def nm21_0 : Norm := ⟨[1, 2, 3, 4, 11, 12], [4, 47], [], []⟩
def nm21_1 : Norm := ⟨[1, 2, 3, 4, 11, 12, 13], [4, 47], [], []⟩
def lv21 : Nat → Option Norm := norms [(11, nm21_0), (14, nm21_1)]
def en21 : End := ⟨[], ⟨[92, 93], [], [], []⟩⟩
def dec21 (l : List TV) (o : List (Nat × TO)) : Option (Bool × Int) := match l, o with | [.dv (.bool) x0, .dv (.int .i64) x1], [] => some (x0, x1) | _, _ => none
def Sl21b (o0 : Q21T3) (log1 : List UInt8) (i2 : Int) (kx3 : Int) (x12_a : Int) (y13_b : Int) (o47_b : List Bool) : TS := ⟨slots 92 [(1, .dv (.str) log1), (2, .dv (.int .i64) i2), (3, .dv (.int .i64) kx3), (4, .ptr 4 0 []), (11, .row 47), (12, .dv (.int .i64) x12_a), (13, .dv (.int .i64) y13_b)], [(4, .row (.pair (.int .i64) (.pair (.sl (.arr 2 (.int .i64))) (.unit))) ([o0] : List (Int × List (List Int) × Unit))), (47, .row (.bool) o47_b)]⟩
def Sl21a (o0 : Q21T3) (log1 : List UInt8) (i2 : Int) (kx3 : Int) (x12_a : Int) (o47_a : List Bool) : TS := ⟨slots 92 [(1, .dv (.str) log1), (2, .dv (.int .i64) i2), (3, .dv (.int .i64) kx3), (4, .ptr 4 0 []), (11, .row 47), (12, .dv (.int .i64) x12_a)], [(4, .row (.pair (.int .i64) (.pair (.sl (.arr 2 (.int .i64))) (.unit))) ([o0] : List (Int × List (List Int) × Unit))), (47, .row (.bool) o47_a)]⟩
noncomputable def K21_0 (a44 : Q21T0) (a48 : Q21T1) (a52 : Q21T2) (N : Nat) : Kont (Bool × Int) := kont (E21 a44 a48 a52) lv21 N c21 [1, 1, 1, 1, 1, 1, 1, 0, 1, 0] (fin TI en21 (resOf Tryd.f21) dec21)
noncomputable def R21_0 (a44 : Q21T0) (a48 : Q21T1) (a52 : Q21T2) (N : Nat) (m : Nat) : TS → Option (Bool × Int) := loopK (den (E21 a44 a48 a52) lv21 N (sub c21 [1, 1, 1, 1, 1, 1, 1, 0, 1, 0, 0])) (TS.norm nm21_0) (K21_0 a44 a48 a52 N) m
noncomputable def K21_1 (a44 : Q21T0) (a48 : Q21T1) (a52 : Q21T2) (N : Nat) (T21_0 : TS → Option (Bool × Int)) : Kont (Bool × Int) := kont (E21 a44 a48 a52) lv21 N (sub c21 [1, 1, 1, 1, 1, 1, 1, 0, 1, 0, 0]) [1, 0, 0, 1, 0] (kloop (TS.norm nm21_0) (K21_0 a44 a48 a52 N) T21_0)
noncomputable def R21_1 (a44 : Q21T0) (a48 : Q21T1) (a52 : Q21T2) (N : Nat) (T21_0 : TS → Option (Bool × Int)) (m : Nat) : TS → Option (Bool × Int) := loopK (den (E21 a44 a48 a52) lv21 N (sub c21 [1, 1, 1, 1, 1, 1, 1, 0, 1, 0, 0, 1, 0, 0, 1, 0, 0])) (TS.norm nm21_1) (K21_1 a44 a48 a52 N T21_0) m
def l21b (a44 : Q21T0) (a48 : Q21T1) (a52 : Q21T2) (N : Nat) (o0 : Q21T3) (log1 : List UInt8) (i2 : Int) (kx3 : Int) (x12_a : Int) (rec_l21a : Int → (List Bool) → Option (Bool × Int)) : Nat → Int → (List Bool) → Option (Bool × Int)
 | 0, _, _ => none
 | n + 1, y13_b, o47_b => cond (decide (y13_b < x12_a)) (chk (decide (0 ≤ x12_a ∧ x12_a < (o47_b.length : Int))) (cond (o47_b.getD x12_a.toNat false) (chk (decide (0 ≤ x12_a ∧ x12_a < (o47_b.length : Int))) ((l21b a44 a48 a52 N o0 log1 i2 kx3 x12_a rec_l21a n (w64 (y13_b + (1 : Int))) (o47_b.set x12_a.toNat true))))
   (chk (decide (0 ≤ y13_b ∧ y13_b < (o47_b.length : Int))) (cond (o47_b.getD y13_b.toNat false) (chk (decide (0 ≤ y13_b ∧ y13_b < (log1.length : Int))) (chk (decide (0 ≤ x12_a ∧ x12_a < (log1.length : Int))) ((a48 o0 (((log1.getD y13_b.toNat 0).toNat : Nat) : Int) (((log1.getD x12_a.toNat 0).toNat : Nat) : Int)).bind fun r4 =>
   chk (decide (0 ≤ x12_a ∧ x12_a < (o47_b.length : Int))) ((l21b a44 a48 a52 N o0 log1 i2 kx3 x12_a rec_l21a n (w64 (y13_b + (1 : Int))) (o47_b.set x12_a.toNat r4))))))
   (chk (decide (0 ≤ x12_a ∧ x12_a < (o47_b.length : Int))) ((l21b a44 a48 a52 N o0 log1 i2 kx3 x12_a rec_l21a n (w64 (y13_b + (1 : Int))) (o47_b.set x12_a.toNat false))))))))
   ((rec_l21a (w64 (x12_a + (1 : Int))) o47_b))
theorem wl21b (a44 : Q21T0) (a48 : Q21T1) (a52 : Q21T2) (N : Nat) (o0 : Q21T3) (log1 : List UInt8) (i2 : Int) (kx3 : Int) (x12_a : Int) (T21_0 : TS → Option (Bool × Int)) (m : Nat) (y13_b : Int) (o47_b : List Bool) : R21_1 a44 a48 a52 N T21_0 (m + 1) (Sl21b o0 log1 i2 kx3 x12_a y13_b o47_b) = cond (decide (y13_b < x12_a)) (chk (decide (0 ≤ x12_a ∧ x12_a < (o47_b.length : Int))) (cond (o47_b.getD x12_a.toNat false) (chk (decide (0 ≤ x12_a ∧ x12_a < (o47_b.length : Int))) ((R21_1 a44 a48 a52 N T21_0 m (Sl21b o0 log1 i2 kx3 x12_a (w64 (y13_b + (1 : Int))) (o47_b.set x12_a.toNat true)))))
   (chk (decide (0 ≤ y13_b ∧ y13_b < (o47_b.length : Int))) (cond (o47_b.getD y13_b.toNat false) (chk (decide (0 ≤ y13_b ∧ y13_b < (log1.length : Int))) (chk (decide (0 ≤ x12_a ∧ x12_a < (log1.length : Int))) ((a48 o0 (((log1.getD y13_b.toNat 0).toNat : Nat) : Int) (((log1.getD x12_a.toNat 0).toNat : Nat) : Int)).bind fun r4 =>
   chk (decide (0 ≤ x12_a ∧ x12_a < (o47_b.length : Int))) ((R21_1 a44 a48 a52 N T21_0 m (Sl21b o0 log1 i2 kx3 x12_a (w64 (y13_b + (1 : Int))) (o47_b.set x12_a.toNat r4)))))))
   (chk (decide (0 ≤ x12_a ∧ x12_a < (o47_b.length : Int))) ((R21_1 a44 a48 a52 N T21_0 m (Sl21b o0 log1 i2 kx3 x12_a (w64 (y13_b + (1 : Int))) (o47_b.set x12_a.toNat false)))))))))
   ((T21_0 (Sl21a o0 log1 i2 kx3 (w64 (x12_a + (1 : Int))) o47_b))) := by kernel_rfl
theorem ql21b (a44 : Q21T0) (a48 : Q21T1) (a52 : Q21T2) (N : Nat) (o0 : Q21T3) (log1 : List UInt8) (i2 : Int) (kx3 : Int) (x12_a : Int) (T21_0 : TS → Option (Bool × Int)) : ∀ (m : Nat) (y13_b : Int) (o47_b : List Bool), R21_1 a44 a48 a52 N T21_0 m (Sl21b o0 log1 i2 kx3 x12_a y13_b o47_b) = l21b a44 a48 a52 N o0 log1 i2 kx3 x12_a (fun y0 y1 => T21_0 (Sl21a o0 log1 i2 kx3 y0 y1)) m y13_b o47_b
        | 0, _, _ => rfl
        | m + 1, y13_b, o47_b => by rw [wl21b]; simp only [l21b, ql21b a44 a48 a52 N o0 log1 i2 kx3 x12_a T21_0 m]
def l21a (a44 : Q21T0) (a48 : Q21T1) (a52 : Q21T2) (N : Nat) (o0 : Q21T3) (log1 : List UInt8) (i2 : Int) (kx3 : Int) : Nat → Int → (List Bool) → Option (Bool × Int)
 | 0, _, _ => none
 | n + 1, x12_a, o47_a => cond (decide (x12_a < (log1.length : Int))) ((l21b a44 a48 a52 N o0 log1 i2 kx3 x12_a (fun y0 y1 => (l21a a44 a48 a52 N o0 log1 i2 kx3 n y0 y1)) N i2 o47_a))
   (chk (decide (0 ≤ kx3 ∧ kx3 < (o47_a.length : Int))) (some (o47_a.getD kx3.toNat false, (0 : Int))))
theorem wl21a (a44 : Q21T0) (a48 : Q21T1) (a52 : Q21T2) (N : Nat) (o0 : Q21T3) (log1 : List UInt8) (i2 : Int) (kx3 : Int) (m : Nat) (x12_a : Int) (o47_a : List Bool) : R21_0 a44 a48 a52 N (m + 1) (Sl21a o0 log1 i2 kx3 x12_a o47_a) = cond (decide (x12_a < (log1.length : Int))) ((R21_1 a44 a48 a52 N (R21_0 a44 a48 a52 N m) N (Sl21b o0 log1 i2 kx3 x12_a i2 o47_a)))
   (chk (decide (0 ≤ kx3 ∧ kx3 < (o47_a.length : Int))) (some (o47_a.getD kx3.toNat false, (0 : Int)))) := by kernel_rfl
theorem ql21a (a44 : Q21T0) (a48 : Q21T1) (a52 : Q21T2) (N : Nat) (o0 : Q21T3) (log1 : List UInt8) (i2 : Int) (kx3 : Int) : ∀ (m : Nat) (x12_a : Int) (o47_a : List Bool), R21_0 a44 a48 a52 N m (Sl21a o0 log1 i2 kx3 x12_a o47_a) = l21a a44 a48 a52 N o0 log1 i2 kx3 m x12_a o47_a
        | 0, _, _ => rfl
        | m + 1, x12_a, o47_a => by rw [wl21a]; simp only [l21a, ql21b, ql21a a44 a48 a52 N o0 log1 i2 kx3 m]
def m21 (a44 : Q21T0) (a48 : Q21T1) (a52 : Q21T2) (N : Nat) (o0 : Q21T3) (log1 : List UInt8) (i2 : Int) (kx3 : Int) : Option (Bool × Int) :=
   (a44 o0 log1).bind fun r1 =>
   cond (r1 == (0 : Int)) ((a52 i2 (0 : Int) (w64 ((log1.length : Int) - (1 : Int)))).bind fun r2 =>
   cond (!r2) (some (false, (5 : Int)))
   ((a52 kx3 (0 : Int) (w64 ((log1.length : Int) - (1 : Int)))).bind fun r3 =>
   cond (!r3) (some (false, (5 : Int)))
   (cond (r1 == (0 : Int)) (cond (i2 == kx3) (some (false, (20 : Int)))
   (cond (r1 != (0 : Int)) (some (false, r1))
   (chk (mkOk (log1.length : Int) (log1.length : Int) 1) (chk (decide (0 ≤ i2 ∧ i2 < ((List.replicate ((log1.length : Int).toNat) false).length : Int))) ((l21a a44 a48 a52 N o0 log1 i2 kx3 N (w64 (i2 + (1 : Int))) ((List.replicate ((log1.length : Int).toNat) false).set i2.toNat true)))))))
   (cond (r1 != (0 : Int)) (some (false, r1))
   (chk (mkOk (log1.length : Int) (log1.length : Int) 1) (chk (decide (0 ≤ i2 ∧ i2 < ((List.replicate ((log1.length : Int).toNat) false).length : Int))) ((l21a a44 a48 a52 N o0 log1 i2 kx3 N (w64 (i2 + (1 : Int))) ((List.replicate ((log1.length : Int).toNat) false).set i2.toNat true)))))))))
   (cond (r1 == (0 : Int)) (cond (i2 == kx3) (some (false, (20 : Int)))
   (cond (r1 != (0 : Int)) (some (false, r1))
   (chk (mkOk (log1.length : Int) (log1.length : Int) 1) (chk (decide (0 ≤ i2 ∧ i2 < ((List.replicate ((log1.length : Int).toNat) false).length : Int))) ((l21a a44 a48 a52 N o0 log1 i2 kx3 N (w64 (i2 + (1 : Int))) ((List.replicate ((log1.length : Int).toNat) false).set i2.toNat true)))))))
   (cond (r1 != (0 : Int)) (some (false, r1))
   (chk (mkOk (log1.length : Int) (log1.length : Int) 1) (chk (decide (0 ≤ i2 ∧ i2 < ((List.replicate ((log1.length : Int).toNat) false).length : Int))) ((l21a a44 a48 a52 N o0 log1 i2 kx3 N (w64 (i2 + (1 : Int))) ((List.replicate ((log1.length : Int).toNat) false).set i2.toNat true)))))))
theorem wm21 (a44 : Q21T0) (a48 : Q21T1) (a52 : Q21T2) (N : Nat) (o0 : Q21T3) (log1 : List UInt8) (i2 : Int) (kx3 : Int) : callF (E21 a44 a48 a52) lv21 N en21 c21 (resOf Tryd.f21) 88 [.dv (.pair (.int .i64) (.pair (.sl (.arr 2 (.int .i64))) (.unit))) o0, .dv (.str) log1, .dv (.int .i64) i2, .dv (.int .i64) kx3] [] dec21 = (a44 o0 log1).bind fun r1 =>
   cond (r1 == (0 : Int)) ((a52 i2 (0 : Int) (w64 ((log1.length : Int) - (1 : Int)))).bind fun r2 =>
   cond (!r2) (some (false, (5 : Int)))
   ((a52 kx3 (0 : Int) (w64 ((log1.length : Int) - (1 : Int)))).bind fun r3 =>
   cond (!r3) (some (false, (5 : Int)))
   (cond (r1 == (0 : Int)) (cond (i2 == kx3) (some (false, (20 : Int)))
   (cond (r1 != (0 : Int)) (some (false, r1))
   (chk (mkOk (log1.length : Int) (log1.length : Int) 1) (chk (decide (0 ≤ i2 ∧ i2 < ((List.replicate ((log1.length : Int).toNat) false).length : Int))) ((R21_0 a44 a48 a52 N N (Sl21a o0 log1 i2 kx3 (w64 (i2 + (1 : Int))) ((List.replicate ((log1.length : Int).toNat) false).set i2.toNat true))))))))
   (cond (r1 != (0 : Int)) (some (false, r1))
   (chk (mkOk (log1.length : Int) (log1.length : Int) 1) (chk (decide (0 ≤ i2 ∧ i2 < ((List.replicate ((log1.length : Int).toNat) false).length : Int))) ((R21_0 a44 a48 a52 N N (Sl21a o0 log1 i2 kx3 (w64 (i2 + (1 : Int))) ((List.replicate ((log1.length : Int).toNat) false).set i2.toNat true))))))))))
   (cond (r1 == (0 : Int)) (cond (i2 == kx3) (some (false, (20 : Int)))
   (cond (r1 != (0 : Int)) (some (false, r1))
   (chk (mkOk (log1.length : Int) (log1.length : Int) 1) (chk (decide (0 ≤ i2 ∧ i2 < ((List.replicate ((log1.length : Int).toNat) false).length : Int))) ((R21_0 a44 a48 a52 N N (Sl21a o0 log1 i2 kx3 (w64 (i2 + (1 : Int))) ((List.replicate ((log1.length : Int).toNat) false).set i2.toNat true))))))))
   (cond (r1 != (0 : Int)) (some (false, r1))
   (chk (mkOk (log1.length : Int) (log1.length : Int) 1) (chk (decide (0 ≤ i2 ∧ i2 < ((List.replicate ((log1.length : Int).toNat) false).length : Int))) ((R21_0 a44 a48 a52 N N (Sl21a o0 log1 i2 kx3 (w64 (i2 + (1 : Int))) ((List.replicate ((log1.length : Int).toNat) false).set i2.toNat true)))))))) := by kernel_rfl
theorem k21 (a44 : Q21T0) (a48 : Q21T1) (a52 : Q21T2) (N : Nat) (o0 : Q21T3) (log1 : List UInt8) (i2 : Int) (kx3 : Int) : callF (E21 a44 a48 a52) lv21 N en21 c21 (resOf Tryd.f21) 88 [.dv (.pair (.int .i64) (.pair (.sl (.arr 2 (.int .i64))) (.unit))) o0, .dv (.str) log1, .dv (.int .i64) i2, .dv (.int .i64) kx3] [] dec21 = m21 a44 a48 a52 N o0 log1 i2 kx3 := by rw [wm21]; simp only [m21, ql21a]
theorem ok21 (a44 : Q21T0) (a48 : Q21T1) (a52 : Q21T2) (h44 : FnOk Tryd.prog 44 (F44 a44)) (h48 : FnOk Tryd.prog 48 (F48 a48)) (h52 : FnOk Tryd.prog 52 (F52 a52)) (a : (Int × List (List Int) × Unit) → (List UInt8) → Int → Int → Option (Bool × Int)) (h : ∀ o0 log1 i2 kx3 r, a o0 log1 i2 kx3 = some r → (∃ N, m21 a44 a48 a52 N o0 log1 i2 kx3 = some r)) : FnOk Tryd.prog 21 (F21 a) := by
 intro args Of x hx
 simp only [F21] at hx
 split at hx
 ·rename_i o0 log1 i2 kx3
  obtain ⟨N, hN⟩ := h _ _ _ _ _ hx
  refine lifted (L := [(44, F44 a44), (48, F48 a48), (52, F52 a52)]) (rc := nrc) (fz := nfz) (fn := Tryd.f21) (by kernel_rfl) (by kernel_rfl) (by kernel_rfl) (by kernel_rfl) rfl ?_ ((k21 a44 a48 a52 N _ _ _ _).trans hN) ?_
  ·intro p hp; simp only [List.mem_cons, List.not_mem_nil, or_false] at hp; rcases hp with rfl | rfl | rfl
   ·exact h44
   ·exact h48
   ·exact h52
  ·intro l o hd
   simp only [dec21] at hd
   split at hd
   ·obtain rfl := Option.some.inj hd; exact ⟨rfl, rfl⟩
   ·cases hd
 ·cases hx
end Go.Proofs.YtmpbbkldopfkpaaDoor
