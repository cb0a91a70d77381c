import Derived.Test.YtmpbbkldopfkpaaDoorQFI
namespace Go.Proofs.YtmpbbkldopfkpaaDoor
open Go.RowKit
set_option linter.unusedVariables false
abbrev Q16T0 := (Int × List (List Int) × Unit) → (List UInt8) → Option (Int)
abbrev Q16T1 := (Int × List (List Int) × Unit) → Int → Int → Option (Bool)
abbrev Q16T2 := Int × List (List Int) × Unit
abbrev Q16T3 := TS → Option (List (List UInt8) × Int)
def E16 (a44 : Q16T0) (a48 : Q16T1) : Env := mkE TI TY [(44, F44 a44), (48, F48 a48)] nrc nfz
noncomputable def c16 : Code := bodyOf Tryd.f16
def nm16_0 : Norm := ⟨[1, 2, 7, 9], [2, 21], [(.slot 8, 1008, .str)], []⟩
def nm16_1 : Norm := ⟨[1, 2, 7, 8, 9, 10], [2, 21, 1008], [], []⟩
def nm16_2 : Norm := ⟨[1, 7, 8, 11], [21, 1008], [], []⟩
def nm16_3 : Norm := ⟨[1, 7, 8, 11, 12], [21, 1008], [], []⟩
def lv16 : Nat → Option Norm := norms [(7, nm16_0), (10, nm16_1), (17, nm16_2), (20, nm16_3)]
def en16 : End := ⟨[(94, .sl (.str))], ⟨[94, 95], [], [], []⟩⟩
def dec16 (l : List TV) (o : List (Nat × TO)) : Option (List (List UInt8) × Int) := match l, o with | [.dv (.sl (.str)) x0, .dv (.int .i64) x1], [] => some (x0, x1) | _, _ => none
def Sl16b (o0 : Q16T2) (log1 : List UInt8) (i9_a : Int) (out8_a : List (List UInt8)) (k10_b : Int) (o21_b : List Int) : TS := ⟨slots 94 [(1, .dv (.str) log1), (2, .ptr 2 0 []), (7, .row 21), (8, .row 1008), (9, .dv (.int .i64) i9_a), (10, .dv (.int .i64) k10_b)], [(2, .row (.pair (.int .i64) (.pair (.sl (.arr 2 (.int .i64))) (.unit))) ([o0] : List (Int × List (List Int) × Unit))), (21, .row (.int .i64) o21_b), (1008, .row (.str) out8_a)]⟩
def Sl16d (log1 : List UInt8) (o21_a : List Int) (kind11_c : Int) (i12_d : Int) (o1008_d : List (List UInt8)) : TS := ⟨slots 94 [(1, .dv (.str) log1), (7, .row 21), (8, .row 1008), (11, .dv (.int .u8) kind11_c), (12, .dv (.int .i64) i12_d)], [(21, .row (.int .i64) o21_a), (1008, .row (.str) o1008_d)]⟩
def Sl16c (log1 : List UInt8) (o21_a : List Int) (kind11_c : Int) (o1008_c : List (List UInt8)) : TS := ⟨slots 94 [(1, .dv (.str) log1), (7, .row 21), (8, .row 1008), (11, .dv (.int .u8) kind11_c)], [(21, .row (.int .i64) o21_a), (1008, .row (.str) o1008_c)]⟩
def Sl16a (o0 : Q16T2) (log1 : List UInt8) (i9_a : Int) (out8_a : List (List UInt8)) (o21_a : List Int) : TS := ⟨slots 94 [(1, .dv (.str) log1), (2, .ptr 2 0 []), (7, .row 21), (8, .row 1008), (9, .dv (.int .i64) i9_a)], [(1008, .row (.str) out8_a), (2, .row (.pair (.int .i64) (.pair (.sl (.arr 2 (.int .i64))) (.unit))) ([o0] : List (Int × List (List Int) × Unit))), (21, .row (.int .i64) o21_a)]⟩
noncomputable def K16_0 (a44 : Q16T0) (a48 : Q16T1) (N : Nat) : Kont (List (List UInt8) × Int) := kont (E16 a44 a48) lv16 N c16 [1, 1, 1, 1, 1, 0, 1, 0] (fin TI en16 (resOf Tryd.f16) dec16)
noncomputable def R16_0 (a44 : Q16T0) (a48 : Q16T1) (N : Nat) (m : Nat) : TS → Option (List (List UInt8) × Int) := loopK (den (E16 a44 a48) lv16 N (sub c16 [1, 1, 1, 1, 1, 0, 1, 0, 0])) (TS.norm nm16_0) (K16_0 a44 a48 N) m
noncomputable def K16_1 (a44 : Q16T0) (a48 : Q16T1) (N : Nat) (T16_0 : Q16T3) : Kont (List (List UInt8) × Int) := kont (E16 a44 a48) lv16 N (sub c16 [1, 1, 1, 1, 1, 0, 1, 0, 0]) [1, 0, 0, 0, 1, 0] (kloop (TS.norm nm16_0) (K16_0 a44 a48 N) T16_0)
noncomputable def R16_1 (a44 : Q16T0) (a48 : Q16T1) (N : Nat) (T16_0 : Q16T3) (m : Nat) : TS → Option (List (List UInt8) × Int) := loopK (den (E16 a44 a48) lv16 N (sub c16 [1, 1, 1, 1, 1, 0, 1, 0, 0, 1, 0, 0, 0, 1, 0, 0])) (TS.norm nm16_1) (K16_1 a44 a48 N T16_0) m
noncomputable def K16_2 (a44 : Q16T0) (a48 : Q16T1) (N : Nat) : Kont (List (List UInt8) × Int) := kont (E16 a44 a48) lv16 N c16 [1, 1, 1, 1, 1, 1, 0, 1, 0] (fin TI en16 (resOf Tryd.f16) dec16)
noncomputable def R16_2 (a44 : Q16T0) (a48 : Q16T1) (N : Nat) (m : Nat) : TS → Option (List (List UInt8) × Int) := loopK (den (E16 a44 a48) lv16 N (sub c16 [1, 1, 1, 1, 1, 1, 0, 1, 0, 0])) (TS.norm nm16_2) (K16_2 a44 a48 N) m
noncomputable def K16_3 (a44 : Q16T0) (a48 : Q16T1) (N : Nat) (T16_2 : Q16T3) : Kont (List (List UInt8) × Int) := kont (E16 a44 a48) lv16 N (sub c16 [1, 1, 1, 1, 1, 1, 0, 1, 0, 0]) [1, 0, 0, 1, 0] (kloop (TS.norm nm16_2) (K16_2 a44 a48 N) T16_2)
noncomputable def R16_3 (a44 : Q16T0) (a48 : Q16T1) (N : Nat) (T16_2 : Q16T3) (m : Nat) : TS → Option (List (List UInt8) × Int) := loopK (den (E16 a44 a48) lv16 N (sub c16 [1, 1, 1, 1, 1, 1, 0, 1, 0, 0, 1, 0, 0, 1, 0, 0])) (TS.norm nm16_3) (K16_3 a44 a48 N T16_2) m
def l16b (a44 : Q16T0) (a48 : Q16T1) (N : Nat) (o0 : Q16T2) (log1 : List UInt8) (i9_a : Int) (out8_a : List (List UInt8)) (rec_l16a : Int → (List (List UInt8)) → (List Int) → Option (List (List UInt8) × Int)) : Nat → Int → (List Int) → Option (List (List UInt8) × Int)
 | 0, _, _ => none
 | n + 1, k10_b, o21_b => cond (decide (k10_b < i9_a)) (chk (decide (0 ≤ k10_b ∧ k10_b < (log1.length : Int))) (chk (decide (0 ≤ i9_a ∧ i9_a < (log1.length : Int))) ((a48 o0 (((log1.getD k10_b.toNat 0).toNat : Nat) : Int) (((log1.getD i9_a.toNat 0).toNat : Nat) : Int)).bind fun r2 =>
   cond (r2) (chk (decide (0 ≤ i9_a ∧ i9_a < (o21_b.length : Int))) (chk (decide (0 ≤ k10_b ∧ k10_b < (o21_b.length : Int))) (chk (decide (0 ≤ i9_a ∧ i9_a < (o21_b.length : Int))) ((l16b a44 a48 N o0 log1 i9_a out8_a rec_l16a n (w64 (k10_b + (1 : Int))) (o21_b.set i9_a.toNat (imax (o21_b.getD i9_a.toNat (0 : Int)) (w64 ((o21_b.getD k10_b.toNat (0 : Int)) + (1 : Int))))))))))
   ((l16b a44 a48 N o0 log1 i9_a out8_a rec_l16a n (w64 (k10_b + (1 : Int))) o21_b)))))
   (chk (decide (0 ≤ i9_a ∧ i9_a < (o21_b.length : Int))) (cond ((o21_b.getD i9_a.toNat (0 : Int)) == (out8_a.length : Int)) (chk (small (out8_a.length + 1) 16) ((rec_l16a (w64 (i9_a + (1 : Int))) (out8_a ++ ([([] : List UInt8)] : List (List UInt8))) o21_b)))
   ((rec_l16a (w64 (i9_a + (1 : Int))) out8_a o21_b))))
theorem wl16b (a44 : Q16T0) (a48 : Q16T1) (N : Nat) (o0 : Q16T2) (log1 : List UInt8) (i9_a : Int) (out8_a : List (List UInt8)) (T16_0 : Q16T3) (m : Nat) (k10_b : Int) (o21_b : List Int) : R16_1 a44 a48 N T16_0 (m + 1) (Sl16b o0 log1 i9_a out8_a k10_b o21_b) = cond (decide (k10_b < i9_a)) (chk (decide (0 ≤ k10_b ∧ k10_b < (log1.length : Int))) (chk (decide (0 ≤ i9_a ∧ i9_a < (log1.length : Int))) ((a48 o0 (((log1.getD k10_b.toNat 0).toNat : Nat) : Int) (((log1.getD i9_a.toNat 0).toNat : Nat) : Int)).bind fun r2 =>
   cond (r2) (chk (decide (0 ≤ i9_a ∧ i9_a < (o21_b.length : Int))) (chk (decide (0 ≤ k10_b ∧ k10_b < (o21_b.length : Int))) (chk (decide (0 ≤ i9_a ∧ i9_a < (o21_b.length : Int))) ((R16_1 a44 a48 N T16_0 m (Sl16b o0 log1 i9_a out8_a (w64 (k10_b + (1 : Int))) (o21_b.set i9_a.toNat (imax (o21_b.getD i9_a.toNat (0 : Int)) (w64 ((o21_b.getD k10_b.toNat (0 : Int)) + (1 : Int)))))))))))
   ((R16_1 a44 a48 N T16_0 m (Sl16b o0 log1 i9_a out8_a (w64 (k10_b + (1 : Int))) o21_b))))))
   (chk (decide (0 ≤ i9_a ∧ i9_a < (o21_b.length : Int))) (cond ((o21_b.getD i9_a.toNat (0 : Int)) == (out8_a.length : Int)) (chk (small (out8_a.length + 1) 16) ((T16_0 (Sl16a o0 log1 (w64 (i9_a + (1 : Int))) (out8_a ++ ([([] : List UInt8)] : List (List UInt8))) o21_b))))
   ((T16_0 (Sl16a o0 log1 (w64 (i9_a + (1 : Int))) out8_a o21_b))))) := by kernel_rfl
theorem ql16b (a44 : Q16T0) (a48 : Q16T1) (N : Nat) (o0 : Q16T2) (log1 : List UInt8) (i9_a : Int) (out8_a : List (List UInt8)) (T16_0 : Q16T3) : ∀ (m : Nat) (k10_b : Int) (o21_b : List Int), R16_1 a44 a48 N T16_0 m (Sl16b o0 log1 i9_a out8_a k10_b o21_b) = l16b a44 a48 N o0 log1 i9_a out8_a (fun y0 y1 y2 => T16_0 (Sl16a o0 log1 y0 y1 y2)) m k10_b o21_b
        | 0, _, _ => rfl
        | m + 1, k10_b, o21_b => by rw [wl16b]; simp only [l16b, ql16b a44 a48 N o0 log1 i9_a out8_a T16_0 m]
def l16d (a44 : Q16T0) (a48 : Q16T1) (N : Nat) (log1 : List UInt8) (o21_a : List Int) (kind11_c : Int) (rec_l16c : Int → (List (List UInt8)) → Option (List (List UInt8) × Int)) : Nat → Int → (List (List UInt8)) → Option (List (List UInt8) × Int)
 | 0, _, _ => none
 | n + 1, i12_d, o1008_d => cond (decide (i12_d < (log1.length : Int))) (chk (decide (0 ≤ i12_d ∧ i12_d < (log1.length : Int))) (cond ((((log1.getD i12_d.toNat 0).toNat : Nat) : Int) == kind11_c) (chk (decide (0 ≤ i12_d ∧ i12_d < (o21_a.length : Int))) (chk (decide (0 ≤ o21_a.getD i12_d.toNat (0 : Int) ∧ o21_a.getD i12_d.toNat (0 : Int) < (o1008_d.length : Int))) (chk (decide (0 ≤ i12_d ∧ i12_d ≤ w64 (i12_d + (1 : Int)) ∧ w64 (i12_d + (1 : Int)) ≤ (log1.length : Int))) (chk (decide ((o1008_d.getD ((o21_a.getD i12_d.toNat (0 : Int)).toNat) ([] : List UInt8)).length + ((log1.take ((w64 (i12_d + (1 : Int))).toNat)).drop i12_d.toNat).length ≤ 9223372036854775807)) (chk (decide (0 ≤ o21_a.getD i12_d.toNat (0 : Int) ∧ o21_a.getD i12_d.toNat (0 : Int) < (o1008_d.length : Int))) ((l16d a44 a48 N log1 o21_a kind11_c rec_l16c n (w64 (i12_d + (1 : Int))) (o1008_d.set ((o21_a.getD i12_d.toNat (0 : Int)).toNat) ((o1008_d.getD ((o21_a.getD i12_d.toNat (0 : Int)).toNat) ([] : List UInt8)) ++ ((log1.take ((w64 (i12_d + (1 : Int))).toNat)).drop i12_d.toNat))))))))))
   ((l16d a44 a48 N log1 o21_a kind11_c rec_l16c n (w64 (i12_d + (1 : Int))) o1008_d))))
   ((rec_l16c (IntKind.wrap .u8 (kind11_c + (1 : Int))) o1008_d))
theorem wl16d (a44 : Q16T0) (a48 : Q16T1) (N : Nat) (log1 : List UInt8) (o21_a : List Int) (kind11_c : Int) (T16_2 : Q16T3) (m : Nat) (i12_d : Int) (o1008_d : List (List UInt8)) : R16_3 a44 a48 N T16_2 (m + 1) (Sl16d log1 o21_a kind11_c i12_d o1008_d) = cond (decide (i12_d < (log1.length : Int))) (chk (decide (0 ≤ i12_d ∧ i12_d < (log1.length : Int))) (cond ((((log1.getD i12_d.toNat 0).toNat : Nat) : Int) == kind11_c) (chk (decide (0 ≤ i12_d ∧ i12_d < (o21_a.length : Int))) (chk (decide (0 ≤ o21_a.getD i12_d.toNat (0 : Int) ∧ o21_a.getD i12_d.toNat (0 : Int) < (o1008_d.length : Int))) (chk (decide (0 ≤ i12_d ∧ i12_d ≤ w64 (i12_d + (1 : Int)) ∧ w64 (i12_d + (1 : Int)) ≤ (log1.length : Int))) (chk (decide ((o1008_d.getD ((o21_a.getD i12_d.toNat (0 : Int)).toNat) ([] : List UInt8)).length + ((log1.take ((w64 (i12_d + (1 : Int))).toNat)).drop i12_d.toNat).length ≤ 9223372036854775807)) (chk (decide (0 ≤ o21_a.getD i12_d.toNat (0 : Int) ∧ o21_a.getD i12_d.toNat (0 : Int) < (o1008_d.length : Int))) ((R16_3 a44 a48 N T16_2 m (Sl16d log1 o21_a kind11_c (w64 (i12_d + (1 : Int))) (o1008_d.set ((o21_a.getD i12_d.toNat (0 : Int)).toNat) ((o1008_d.getD ((o21_a.getD i12_d.toNat (0 : Int)).toNat) ([] : List UInt8)) ++ ((log1.take ((w64 (i12_d + (1 : Int))).toNat)).drop i12_d.toNat)))))))))))
   ((R16_3 a44 a48 N T16_2 m (Sl16d log1 o21_a kind11_c (w64 (i12_d + (1 : Int))) o1008_d)))))
   ((T16_2 (Sl16c log1 o21_a (IntKind.wrap .u8 (kind11_c + (1 : Int))) o1008_d))) := by kernel_rfl
theorem ql16d (a44 : Q16T0) (a48 : Q16T1) (N : Nat) (log1 : List UInt8) (o21_a : List Int) (kind11_c : Int) (T16_2 : Q16T3) : ∀ (m : Nat) (i12_d : Int) (o1008_d : List (List UInt8)), R16_3 a44 a48 N T16_2 m (Sl16d log1 o21_a kind11_c i12_d o1008_d) = l16d a44 a48 N log1 o21_a kind11_c (fun y0 y1 => T16_2 (Sl16c log1 o21_a y0 y1)) m i12_d o1008_d
        | 0, _, _ => rfl
        | m + 1, i12_d, o1008_d => by rw [wl16d]; simp only [l16d, ql16d a44 a48 N log1 o21_a kind11_c T16_2 m]
def l16c (a44 : Q16T0) (a48 : Q16T1) (N : Nat) (log1 : List UInt8) (o21_a : List Int) : Nat → Int → (List (List UInt8)) → Option (List (List UInt8) × Int)
 | 0, _, _ => none
 | n + 1, kind11_c, o1008_c => cond (decide (kind11_c < (103 : Int))) ((l16d a44 a48 N log1 o21_a kind11_c (fun y0 y1 => (l16c a44 a48 N log1 o21_a n y0 y1)) N (0 : Int) o1008_c))
   (some (o1008_c, (0 : Int)))
theorem wl16c (a44 : Q16T0) (a48 : Q16T1) (N : Nat) (log1 : List UInt8) (o21_a : List Int) (m : Nat) (kind11_c : Int) (o1008_c : List (List UInt8)) : R16_2 a44 a48 N (m + 1) (Sl16c log1 o21_a kind11_c o1008_c) = cond (decide (kind11_c < (103 : Int))) ((R16_3 a44 a48 N (R16_2 a44 a48 N m) N (Sl16d log1 o21_a kind11_c (0 : Int) o1008_c)))
   (some (o1008_c, (0 : Int))) := by kernel_rfl
theorem ql16c (a44 : Q16T0) (a48 : Q16T1) (N : Nat) (log1 : List UInt8) (o21_a : List Int) : ∀ (m : Nat) (kind11_c : Int) (o1008_c : List (List UInt8)), R16_2 a44 a48 N m (Sl16c log1 o21_a kind11_c o1008_c) = l16c a44 a48 N log1 o21_a m kind11_c o1008_c
        | 0, _, _ => rfl
        | m + 1, kind11_c, o1008_c => by rw [wl16c]; simp only [l16c, ql16d, ql16c a44 a48 N log1 o21_a m]
def l16a (a44 : Q16T0) (a48 : Q16T1) (N : Nat) (o0 : Q16T2) (log1 : List UInt8) : Nat → Int → (List (List UInt8)) → (List Int) → Option (List (List UInt8) × Int)
 | 0, _, _, _ => none
 | n + 1, i9_a, out8_a, o21_a => cond (decide (i9_a < (log1.length : Int))) ((l16b a44 a48 N o0 log1 i9_a out8_a (fun y0 y1 y2 => (l16a a44 a48 N o0 log1 n y0 y1 y2)) N (0 : Int) o21_a))
   ((l16c a44 a48 N log1 o21_a N (97 : Int) out8_a))
theorem wl16a (a44 : Q16T0) (a48 : Q16T1) (N : Nat) (o0 : Q16T2) (log1 : List UInt8) (m : Nat) (i9_a : Int) (out8_a : List (List UInt8)) (o21_a : List Int) : R16_0 a44 a48 N (m + 1) (Sl16a o0 log1 i9_a out8_a o21_a) = cond (decide (i9_a < (log1.length : Int))) ((R16_1 a44 a48 N (R16_0 a44 a48 N m) N (Sl16b o0 log1 i9_a out8_a (0 : Int) o21_a)))
   ((R16_2 a44 a48 N N (Sl16c log1 o21_a (97 : Int) out8_a))) := by kernel_rfl
theorem ql16a (a44 : Q16T0) (a48 : Q16T1) (N : Nat) (o0 : Q16T2) (log1 : List UInt8) : ∀ (m : Nat) (i9_a : Int) (out8_a : List (List UInt8)) (o21_a : List Int), R16_0 a44 a48 N m (Sl16a o0 log1 i9_a out8_a o21_a) = l16a a44 a48 N o0 log1 m i9_a out8_a o21_a
        | 0, _, _, _ => rfl
        | m + 1, i9_a, out8_a, o21_a => by rw [wl16a]; simp only [l16a, ql16b, ql16c, ql16a a44 a48 N o0 log1 m]
def m16 (a44 : Q16T0) (a48 : Q16T1) (N : Nat) (o0 : Q16T2) (log1 : List UInt8) : Option (List (List UInt8) × Int) :=
   (a44 o0 log1).bind fun r1 =>
   cond (r1 != (0 : Int)) (some (([] : List (List UInt8)), r1))
   (chk (mkOk (log1.length : Int) (log1.length : Int) 8) ((l16a a44 a48 N o0 log1 N (0 : Int) ([] : List (List UInt8)) (List.replicate ((log1.length : Int).toNat) (0 : Int)))))
theorem wm16 (a44 : Q16T0) (a48 : Q16T1) (N : Nat) (o0 : Q16T2) (log1 : List UInt8) : callF (E16 a44 a48) lv16 N en16 c16 (resOf Tryd.f16) 92 [.dv (.pair (.int .i64) (.pair (.sl (.arr 2 (.int .i64))) (.unit))) o0, .dv (.str) log1] [] dec16 = (a44 o0 log1).bind fun r1 =>
   cond (r1 != (0 : Int)) (some (([] : List (List UInt8)), r1))
   (chk (mkOk (log1.length : Int) (log1.length : Int) 8) ((R16_0 a44 a48 N N (Sl16a o0 log1 (0 : Int) ([] : List (List UInt8)) (List.replicate ((log1.length : Int).toNat) (0 : Int)))))) := by kernel_rfl
theorem k16 (a44 : Q16T0) (a48 : Q16T1) (N : Nat) (o0 : Q16T2) (log1 : List UInt8) : callF (E16 a44 a48) lv16 N en16 c16 (resOf Tryd.f16) 92 [.dv (.pair (.int .i64) (.pair (.sl (.arr 2 (.int .i64))) (.unit))) o0, .dv (.str) log1] [] dec16 = m16 a44 a48 N o0 log1 := by rw [wm16]; simp only [m16, ql16a]
theorem ok16 (a44 : Q16T0) (a48 : Q16T1) (h44 : FnOk Tryd.prog 44 (F44 a44)) (h48 : FnOk Tryd.prog 48 (F48 a48)) (a : (Int × List (List Int) × Unit) → (List UInt8) → Option (List (List UInt8) × Int)) (h : ∀ o0 log1 r, a o0 log1 = some r → (∃ N, m16 a44 a48 N o0 log1 = some r)) : FnOk Tryd.prog 16 (F16 a) := by
 intro args Of x hx
 simp only [F16] at hx
 split at hx
 ·rename_i o0 log1
  obtain ⟨N, hN⟩ := h _ _ _ hx
  refine lifted (L := [(44, F44 a44), (48, F48 a48)]) (rc := nrc) (fz := nfz) (fn := Tryd.f16) (by kernel_rfl) (by kernel_rfl) (by kernel_rfl) (by kernel_rfl) rfl ?_ ((k16 a44 a48 N _ _).trans hN) ?_
  ·intro p hp; simp only [List.mem_cons, List.not_mem_nil, or_false] at hp; rcases hp with rfl | rfl
   ·exact h44
   ·exact h48
  ·intro l o hd
   simp only [dec16] at hd
   split at hd
   ·obtain rfl := Option.some.inj hd; exact ⟨rfl, rfl⟩
   ·cases hd
 ·cases hx
end Go.Proofs.YtmpbbkldopfkpaaDoor
