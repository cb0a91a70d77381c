import Derived.Test.YtmpbbkldopfkpaaDoorQFI
namespace Go.Proofs.YtmpbbkldopfkpaaDoor
open Go.RowKit
set_option linter.unusedVariables false
abbrev Q5T0 := Option (Bool)
abbrev Q5T1 := (Int × List (List Int) × Unit) → (List UInt8) → Option (List UInt8 × Int)
abbrev Q5T2 := (Int × List (List Int) × Unit) → (List UInt8) → Option (List (List UInt8) × Int)
abbrev Q5T3 := (List (List UInt8)) → (List (List UInt8)) → Option (Bool)
abbrev Q5T4 := (Int × List (List Int) × Unit) → (List UInt8) → Option (Int × Int)
abbrev Q5T5 := (Int × Int × Unit) → Option (Int × List (List Int) × Unit)
abbrev Q5T6 := (List Int) → (Int × List (List Int) × Unit) → Int → Option (List UInt8)
abbrev Q5T7 := (Int × List (List Int) × Unit) → (List UInt8) → (List Int) → Option (List UInt8)
abbrev Q5T8 := (Int × List (List Int) × Unit) → (List UInt8) → Option (List (List UInt8 × Int))
abbrev Q5T9 := (Int × List (List Int) × Unit) → Int → Int → Option (Bool)
abbrev Q5T10 := TS → Option (Unit)
def E5 (a11 : Q5T0) (a13 : Q5T1) (a15 : Q5T2) (a17 : Q5T3) (a18 : Q5T4) (a26 : Q5T5) (a27 : Q5T6) (a28 : Q5T7) (a29 : Q5T8) (a30 : Q5T9) (want0 : Bool) : Env := mkEw TI TY [(11, F11 a11), (13, F13 a13), (15, F15 a15), (17, F17 a17), (18, F18 a18), (26, F26 a26), (27, F27 a27), (28, F28 a28), (29, F29 a29), (30, F30 a30)] nrc nfz (fun i => ([] : List (Nat × Nat)).lookup i)
noncomputable def c5 : Code := bodyOf Tryd.f5
def nm5_0 : Norm := ⟨[7, 10, 14, 20, 121], [7, 1760012, 121], [], []⟩
def nm5_1 : Norm := ⟨[7, 14, 20, 24, 129, 130, 131], [7, 1760012], [], []⟩
def nm5_2 : Norm := ⟨[7, 14, 20, 24, 25, 26, 129, 130, 131, 137], [7, 1760012, 137], [], []⟩
def nm5_3 : Norm := ⟨[7, 14, 20, 24, 25, 26, 27, 28, 129, 130, 131, 137], [7, 1760012, 137], [], []⟩
def nm5_4 : Norm := ⟨[7, 14, 20, 24, 25, 26, 27, 29, 30, 129, 130, 131, 137], [7, 1760012, 137], [], []⟩
def lv5 : Nat → Option Norm := norms [(16, nm5_0), (22, nm5_1), (25, nm5_2), (30, nm5_3), (36, nm5_4)]
def en5 : End := ⟨[], ⟨[232], [], [], []⟩⟩
def dec5 (want0 : Bool) (l : List TV) (o : List (Nat × TO)) : Option Unit := match l, o with | [.dv (.bool) x0], [] => chk (decide (x0 = want0)) (some ()) | _, _ => none
def Sl5e (r1 : Int × List (List Int) × Unit) (r6 : List (List UInt8) × Int) (r9 : List (List UInt8 × Int)) (joined24_b : List UInt8) (t131_b : Int) (h13 : Int × Int) (g14 : List (Int × Int)) (held29_e : Bool) (m30_e : Int) : TS := ⟨slots 232 [(7, .ptr 7 0 []), (14, .dv (.sl (.str)) r6.1), (20, .row 1760012), (24, .dv (.str) joined24_b), (25, .dv (.int .i64) t131_b), (26, .dv (.str) (r6.1.getD t131_b.toNat ([] : List UInt8))), (27, .dv (.int .i64) h13.1), (29, .dv (.bool) held29_e), (30, .dv (.int .i64) m30_e), (129, .dv (.sl (.str)) r6.1), (130, .dv (.int .i64) (r6.1.length : Int)), (131, .dv (.int .i64) t131_b), (137, .row 137)], [(7, .row (.pair (.int .i64) (.pair (.sl (.arr 2 (.int .i64))) (.unit))) ([r1] : List (Int × List (List Int) × Unit))), (1760012, .fmp (.str) (.int .i64) r9), (137, .sit g14)]⟩
def Sl5d (r1 : Int × List (List Int) × Unit) (r6 : List (List UInt8) × Int) (r9 : List (List UInt8 × Int)) (joined24_b : List UInt8) (t131_b : Int) (h13 : Int × Int) (g14 : List (Int × Int)) (m28_d : Int) : TS := ⟨slots 232 [(7, .ptr 7 0 []), (14, .dv (.sl (.str)) r6.1), (20, .row 1760012), (24, .dv (.str) joined24_b), (25, .dv (.int .i64) t131_b), (26, .dv (.str) (r6.1.getD t131_b.toNat ([] : List UInt8))), (27, .dv (.int .i64) h13.1), (28, .dv (.int .i64) m28_d), (129, .dv (.sl (.str)) r6.1), (130, .dv (.int .i64) (r6.1.length : Int)), (131, .dv (.int .i64) t131_b), (137, .row 137)], [(7, .row (.pair (.int .i64) (.pair (.sl (.arr 2 (.int .i64))) (.unit))) ([r1] : List (Int × List (List Int) × Unit))), (1760012, .fmp (.str) (.int .i64) r9), (137, .sit g14)]⟩
def Sl5c (r1 : Int × List (List Int) × Unit) (r6 : List (List UInt8) × Int) (r9 : List (List UInt8 × Int)) (joined24_b : List UInt8) (t131_b : Int) (o137_c : List (Int × Int)) : TS := ⟨slots 232 [(7, .ptr 7 0 []), (14, .dv (.sl (.str)) r6.1), (20, .row 1760012), (24, .dv (.str) joined24_b), (25, .dv (.int .i64) t131_b), (26, .dv (.str) (r6.1.getD t131_b.toNat ([] : List UInt8))), (129, .dv (.sl (.str)) r6.1), (130, .dv (.int .i64) (r6.1.length : Int)), (131, .dv (.int .i64) t131_b), (137, .row 137)], [(7, .row (.pair (.int .i64) (.pair (.sl (.arr 2 (.int .i64))) (.unit))) ([r1] : List (Int × List (List Int) × Unit))), (1760012, .fmp (.str) (.int .i64) r9), (137, .sit o137_c)]⟩
def Sl5b (r1 : Int × List (List Int) × Unit) (r6 : List (List UInt8) × Int) (r9 : List (List UInt8 × Int)) (joined24_b : List UInt8) (t131_b : Int) : TS := ⟨slots 232 [(7, .ptr 7 0 []), (14, .dv (.sl (.str)) r6.1), (20, .row 1760012), (24, .dv (.str) joined24_b), (129, .dv (.sl (.str)) r6.1), (130, .dv (.int .i64) (r6.1.length : Int)), (131, .dv (.int .i64) t131_b)], [(7, .row (.pair (.int .i64) (.pair (.sl (.arr 2 (.int .i64))) (.unit))) ([r1] : List (Int × List (List Int) × Unit))), (1760012, .fmp (.str) (.int .i64) r9)]⟩
def Sl5a (r1 : Int × List (List Int) × Unit) (r4 : List UInt8 × Int) (r6 : List (List UInt8) × Int) (r9 : List (List UInt8 × Int)) (o121_a : List (List UInt8 × Int)) : TS := ⟨slots 232 [(7, .ptr 7 0 []), (10, .dv (.str) r4.1), (14, .dv (.sl (.str)) r6.1), (20, .row 1760012), (121, .row 121)], [(7, .row (.pair (.int .i64) (.pair (.sl (.arr 2 (.int .i64))) (.unit))) ([r1] : List (Int × List (List Int) × Unit))), (1760012, .fmp (.str) (.int .i64) r9), (121, .iter (.str) (.int .i64) o121_a none)]⟩
noncomputable def K5_0 (a11 : Q5T0) (a13 : Q5T1) (a15 : Q5T2) (a17 : Q5T3) (a18 : Q5T4) (a26 : Q5T5) (a27 : Q5T6) (a28 : Q5T7) (a29 : Q5T8) (a30 : Q5T9) (want0 : Bool) (N : Nat) : Kont (Unit) := kont (E5 a11 a13 a15 a17 a18 a26 a27 a28 a29 a30 want0) lv5 N c5 [1, 1, 1, 1, 1, 1, 1, 1, 1, 1, 1, 1, 0, 1, 0] (fin TI en5 (resOf Tryd.f5) (dec5 want0))
noncomputable def R5_0 (a11 : Q5T0) (a13 : Q5T1) (a15 : Q5T2) (a17 : Q5T3) (a18 : Q5T4) (a26 : Q5T5) (a27 : Q5T6) (a28 : Q5T7) (a29 : Q5T8) (a30 : Q5T9) (want0 : Bool) (N : Nat) (m : Nat) : TS → Option (Unit) := loopK (den (E5 a11 a13 a15 a17 a18 a26 a27 a28 a29 a30 want0) lv5 N (sub c5 [1, 1, 1, 1, 1, 1, 1, 1, 1, 1, 1, 1, 0, 1, 0, 0])) (TS.norm nm5_0) (K5_0 a11 a13 a15 a17 a18 a26 a27 a28 a29 a30 want0 N) m
noncomputable def K5_1 (a11 : Q5T0) (a13 : Q5T1) (a15 : Q5T2) (a17 : Q5T3) (a18 : Q5T4) (a26 : Q5T5) (a27 : Q5T6) (a28 : Q5T7) (a29 : Q5T8) (a30 : Q5T9) (want0 : Bool) (N : Nat) : Kont (Unit) := kont (E5 a11 a13 a15 a17 a18 a26 a27 a28 a29 a30 want0) lv5 N c5 [1, 1, 1, 1, 1, 1, 1, 1, 1, 1, 1, 1, 1, 1, 0, 1, 0] (fin TI en5 (resOf Tryd.f5) (dec5 want0))
noncomputable def R5_1 (a11 : Q5T0) (a13 : Q5T1) (a15 : Q5T2) (a17 : Q5T3) (a18 : Q5T4) (a26 : Q5T5) (a27 : Q5T6) (a28 : Q5T7) (a29 : Q5T8) (a30 : Q5T9) (want0 : Bool) (N : Nat) (m : Nat) : TS → Option (Unit) := loopK (den (E5 a11 a13 a15 a17 a18 a26 a27 a28 a29 a30 want0) lv5 N (sub c5 [1, 1, 1, 1, 1, 1, 1, 1, 1, 1, 1, 1, 1, 1, 0, 1, 0, 0])) (TS.norm nm5_1) (K5_1 a11 a13 a15 a17 a18 a26 a27 a28 a29 a30 want0 N) m
noncomputable def K5_2 (a11 : Q5T0) (a13 : Q5T1) (a15 : Q5T2) (a17 : Q5T3) (a18 : Q5T4) (a26 : Q5T5) (a27 : Q5T6) (a28 : Q5T7) (a29 : Q5T8) (a30 : Q5T9) (want0 : Bool) (N : Nat) (T5_1 : Q5T10) : Kont (Unit) := kont (E5 a11 a13 a15 a17 a18 a26 a27 a28 a29 a30 want0) lv5 N (sub c5 [1, 1, 1, 1, 1, 1, 1, 1, 1, 1, 1, 1, 1, 1, 0, 1, 0, 0]) [1, 1, 0, 0, 1, 0, 1, 0] (kloop (TS.norm nm5_1) (K5_1 a11 a13 a15 a17 a18 a26 a27 a28 a29 a30 want0 N) T5_1)
noncomputable def R5_2 (a11 : Q5T0) (a13 : Q5T1) (a15 : Q5T2) (a17 : Q5T3) (a18 : Q5T4) (a26 : Q5T5) (a27 : Q5T6) (a28 : Q5T7) (a29 : Q5T8) (a30 : Q5T9) (want0 : Bool) (N : Nat) (T5_1 : Q5T10) (m : Nat) : TS → Option (Unit) := loopK (den (E5 a11 a13 a15 a17 a18 a26 a27 a28 a29 a30 want0) lv5 N (sub c5 [1, 1, 1, 1, 1, 1, 1, 1, 1, 1, 1, 1, 1, 1, 0, 1, 0, 0, 1, 1, 0, 0, 1, 0, 1, 0, 0])) (TS.norm nm5_2) (K5_2 a11 a13 a15 a17 a18 a26 a27 a28 a29 a30 want0 N T5_1) m
noncomputable def K5_3 (a11 : Q5T0) (a13 : Q5T1) (a15 : Q5T2) (a17 : Q5T3) (a18 : Q5T4) (a26 : Q5T5) (a27 : Q5T6) (a28 : Q5T7) (a29 : Q5T8) (a30 : Q5T9) (want0 : Bool) (N : Nat) (T5_1 : Q5T10) (T5_2 : Q5T10) : Kont (Unit) := kont (E5 a11 a13 a15 a17 a18 a26 a27 a28 a29 a30 want0) lv5 N (sub c5 [1, 1, 1, 1, 1, 1, 1, 1, 1, 1, 1, 1, 1, 1, 0, 1, 0, 0, 1, 1, 0, 0, 1, 0, 1, 0, 0]) [1, 1, 0, 1, 1, 0, 1, 0] (kloop (TS.norm nm5_2) (K5_2 a11 a13 a15 a17 a18 a26 a27 a28 a29 a30 want0 N T5_1) T5_2)
noncomputable def R5_3 (a11 : Q5T0) (a13 : Q5T1) (a15 : Q5T2) (a17 : Q5T3) (a18 : Q5T4) (a26 : Q5T5) (a27 : Q5T6) (a28 : Q5T7) (a29 : Q5T8) (a30 : Q5T9) (want0 : Bool) (N : Nat) (T5_1 : Q5T10) (T5_2 : Q5T10) (m : Nat) : TS → Option (Unit) := loopK (den (E5 a11 a13 a15 a17 a18 a26 a27 a28 a29 a30 want0) lv5 N (sub c5 [1, 1, 1, 1, 1, 1, 1, 1, 1, 1, 1, 1, 1, 1, 0, 1, 0, 0, 1, 1, 0, 0, 1, 0, 1, 0, 0, 1, 1, 0, 1, 1, 0, 1, 0, 0])) (TS.norm nm5_3) (K5_3 a11 a13 a15 a17 a18 a26 a27 a28 a29 a30 want0 N T5_1 T5_2) m
noncomputable def K5_4 (a11 : Q5T0) (a13 : Q5T1) (a15 : Q5T2) (a17 : Q5T3) (a18 : Q5T4) (a26 : Q5T5) (a27 : Q5T6) (a28 : Q5T7) (a29 : Q5T8) (a30 : Q5T9) (want0 : Bool) (N : Nat) (T5_1 : Q5T10) (T5_2 : Q5T10) : Kont (Unit) := kont (E5 a11 a13 a15 a17 a18 a26 a27 a28 a29 a30 want0) lv5 N (sub c5 [1, 1, 1, 1, 1, 1, 1, 1, 1, 1, 1, 1, 1, 1, 0, 1, 0, 0, 1, 1, 0, 0, 1, 0, 1, 0, 0]) [1, 1, 0, 1, 1, 1, 1, 0, 1, 0] (kloop (TS.norm nm5_2) (K5_2 a11 a13 a15 a17 a18 a26 a27 a28 a29 a30 want0 N T5_1) T5_2)
noncomputable def R5_4 (a11 : Q5T0) (a13 : Q5T1) (a15 : Q5T2) (a17 : Q5T3) (a18 : Q5T4) (a26 : Q5T5) (a27 : Q5T6) (a28 : Q5T7) (a29 : Q5T8) (a30 : Q5T9) (want0 : Bool) (N : Nat) (T5_1 : Q5T10) (T5_2 : Q5T10) (m : Nat) : TS → Option (Unit) := loopK (den (E5 a11 a13 a15 a17 a18 a26 a27 a28 a29 a30 want0) lv5 N (sub c5 [1, 1, 1, 1, 1, 1, 1, 1, 1, 1, 1, 1, 1, 1, 0, 1, 0, 0, 1, 1, 0, 0, 1, 0, 1, 0, 0, 1, 1, 0, 1, 1, 1, 1, 0, 1, 0, 0])) (TS.norm nm5_4) (K5_4 a11 a13 a15 a17 a18 a26 a27 a28 a29 a30 want0 N T5_1 T5_2) m
def l5e (a11 : Q5T0) (a13 : Q5T1) (a15 : Q5T2) (a17 : Q5T3) (a18 : Q5T4) (a26 : Q5T5) (a27 : Q5T6) (a28 : Q5T7) (a29 : Q5T8) (a30 : Q5T9) (want0 : Bool) (N : Nat) (r1 : Int × List (List Int) × Unit) (r6 : List (List UInt8) × Int) (r9 : List (List UInt8 × Int)) (joined24_b : List UInt8) (t131_b : Int) (h13 : Int × Int) (g14 : List (Int × Int)) (rec_l5c : (List (Int × Int)) → Option (Unit)) : Nat → Bool → Int → Option (Unit)
 | 0, _, _ => none
 | n + 1, held29_e, m30_e => cond (decide (t131_b > (0 : Int))) (chk (decide (0 ≤ w64 (t131_b - (1 : Int)) ∧ w64 (t131_b - (1 : Int)) < (r6.1.length : Int))) (cond (decide (m30_e < ((r6.1.getD ((w64 (t131_b - (1 : Int))).toNat) ([] : List UInt8)).length : Int))) (cond (held29_e) ((l5e a11 a13 a15 a17 a18 a26 a27 a28 a29 a30 want0 N r1 r6 r9 joined24_b t131_b h13 g14 rec_l5c n true (w64 (m30_e + (1 : Int)))))
   (chk (decide (0 ≤ w64 (t131_b - (1 : Int)) ∧ w64 (t131_b - (1 : Int)) < (r6.1.length : Int))) (chk (decide (0 ≤ m30_e ∧ m30_e < ((r6.1.getD ((w64 (t131_b - (1 : Int))).toNat) ([] : List UInt8)).length : Int))) (chk (decide (0 ≤ h13.1 ∧ h13.1 < ((r6.1.getD t131_b.toNat ([] : List UInt8)).length : Int))) ((a30 r1 ((((r6.1.getD ((w64 (t131_b - (1 : Int))).toNat) ([] : List UInt8)).getD m30_e.toNat 0).toNat : Nat) : Int) ((((r6.1.getD t131_b.toNat ([] : List UInt8)).getD h13.1.toNat 0).toNat : Nat) : Int)).bind fun r16 =>
   (l5e a11 a13 a15 a17 a18 a26 a27 a28 a29 a30 want0 N r1 r6 r9 joined24_b t131_b h13 g14 rec_l5c n (!r16) (w64 (m30_e + (1 : Int)))))))))
   (cond (!held29_e) (chk (decide (false = want0)) (some ()))
   ((rec_l5c g14)))))
   (cond (!held29_e) (chk (decide (false = want0)) (some ()))
   ((rec_l5c g14)))
theorem wl5e (a11 : Q5T0) (a13 : Q5T1) (a15 : Q5T2) (a17 : Q5T3) (a18 : Q5T4) (a26 : Q5T5) (a27 : Q5T6) (a28 : Q5T7) (a29 : Q5T8) (a30 : Q5T9) (want0 : Bool) (N : Nat) (r1 : Int × List (List Int) × Unit) (r6 : List (List UInt8) × Int) (r9 : List (List UInt8 × Int)) (joined24_b : List UInt8) (t131_b : Int) (h13 : Int × Int) (g14 : List (Int × Int)) (T5_1 : Q5T10) (T5_2 : Q5T10) (m : Nat) (held29_e : Bool) (m30_e : Int) : R5_4 a11 a13 a15 a17 a18 a26 a27 a28 a29 a30 want0 N T5_1 T5_2 (m + 1) (Sl5e r1 r6 r9 joined24_b t131_b h13 g14 held29_e m30_e) = cond (decide (t131_b > (0 : Int))) (chk (decide (0 ≤ w64 (t131_b - (1 : Int)) ∧ w64 (t131_b - (1 : Int)) < (r6.1.length : Int))) (cond (decide (m30_e < ((r6.1.getD ((w64 (t131_b - (1 : Int))).toNat) ([] : List UInt8)).length : Int))) (cond (held29_e) ((R5_4 a11 a13 a15 a17 a18 a26 a27 a28 a29 a30 want0 N T5_1 T5_2 m (Sl5e r1 r6 r9 joined24_b t131_b h13 g14 true (w64 (m30_e + (1 : Int))))))
   (chk (decide (0 ≤ w64 (t131_b - (1 : Int)) ∧ w64 (t131_b - (1 : Int)) < (r6.1.length : Int))) (chk (decide (0 ≤ m30_e ∧ m30_e < ((r6.1.getD ((w64 (t131_b - (1 : Int))).toNat) ([] : List UInt8)).length : Int))) (chk (decide (0 ≤ h13.1 ∧ h13.1 < ((r6.1.getD t131_b.toNat ([] : List UInt8)).length : Int))) ((a30 r1 ((((r6.1.getD ((w64 (t131_b - (1 : Int))).toNat) ([] : List UInt8)).getD m30_e.toNat 0).toNat : Nat) : Int) ((((r6.1.getD t131_b.toNat ([] : List UInt8)).getD h13.1.toNat 0).toNat : Nat) : Int)).bind fun r16 =>
   (R5_4 a11 a13 a15 a17 a18 a26 a27 a28 a29 a30 want0 N T5_1 T5_2 m (Sl5e r1 r6 r9 joined24_b t131_b h13 g14 (!r16) (w64 (m30_e + (1 : Int))))))))))
   (cond (!held29_e) (chk (decide (false = want0)) (some ()))
   ((T5_2 (Sl5c r1 r6 r9 joined24_b t131_b g14))))))
   (cond (!held29_e) (chk (decide (false = want0)) (some ()))
   ((T5_2 (Sl5c r1 r6 r9 joined24_b t131_b g14)))) := by kernel_rfl
theorem ql5e (a11 : Q5T0) (a13 : Q5T1) (a15 : Q5T2) (a17 : Q5T3) (a18 : Q5T4) (a26 : Q5T5) (a27 : Q5T6) (a28 : Q5T7) (a29 : Q5T8) (a30 : Q5T9) (want0 : Bool) (N : Nat) (r1 : Int × List (List Int) × Unit) (r6 : List (List UInt8) × Int) (r9 : List (List UInt8 × Int)) (joined24_b : List UInt8) (t131_b : Int) (h13 : Int × Int) (g14 : List (Int × Int)) (T5_1 : Q5T10) (T5_2 : Q5T10) : ∀ (m : Nat) (held29_e : Bool) (m30_e : Int), R5_4 a11 a13 a15 a17 a18 a26 a27 a28 a29 a30 want0 N T5_1 T5_2 m (Sl5e r1 r6 r9 joined24_b t131_b h13 g14 held29_e m30_e) = l5e a11 a13 a15 a17 a18 a26 a27 a28 a29 a30 want0 N r1 r6 r9 joined24_b t131_b h13 g14 (fun y0 => T5_2 (Sl5c r1 r6 r9 joined24_b t131_b y0)) m held29_e m30_e
        | 0, _, _ => rfl
        | m + 1, held29_e, m30_e => by rw [wl5e]; simp only [l5e, ql5e a11 a13 a15 a17 a18 a26 a27 a28 a29 a30 want0 N r1 r6 r9 joined24_b t131_b h13 g14 T5_1 T5_2 m]
def l5d (a11 : Q5T0) (a13 : Q5T1) (a15 : Q5T2) (a17 : Q5T3) (a18 : Q5T4) (a26 : Q5T5) (a27 : Q5T6) (a28 : Q5T7) (a29 : Q5T8) (a30 : Q5T9) (want0 : Bool) (N : Nat) (r1 : Int × List (List Int) × Unit) (r6 : List (List UInt8) × Int) (r9 : List (List UInt8 × Int)) (joined24_b : List UInt8) (t131_b : Int) (h13 : Int × Int) (g14 : List (Int × Int)) (rec_l5c : (List (Int × Int)) → Option (Unit)) : Nat → Int → Option (Unit)
 | 0, _ => none
 | n + 1, m28_d => cond (decide (m28_d < h13.1)) (chk (decide (0 ≤ m28_d ∧ m28_d < ((r6.1.getD t131_b.toNat ([] : List UInt8)).length : Int))) (chk (decide (0 ≤ h13.1 ∧ h13.1 < ((r6.1.getD t131_b.toNat ([] : List UInt8)).length : Int))) ((a30 r1 ((((r6.1.getD t131_b.toNat ([] : List UInt8)).getD m28_d.toNat 0).toNat : Nat) : Int) ((((r6.1.getD t131_b.toNat ([] : List UInt8)).getD h13.1.toNat 0).toNat : Nat) : Int)).bind fun r15 =>
   cond (!r15) (chk (decide (false = want0)) (some ()))
   ((l5d a11 a13 a15 a17 a18 a26 a27 a28 a29 a30 want0 N r1 r6 r9 joined24_b t131_b h13 g14 rec_l5c n (w64 (m28_d + (1 : Int))))))))
   ((l5e a11 a13 a15 a17 a18 a26 a27 a28 a29 a30 want0 N r1 r6 r9 joined24_b t131_b h13 g14 rec_l5c N (t131_b == (0 : Int)) (0 : Int)))
theorem wl5d (a11 : Q5T0) (a13 : Q5T1) (a15 : Q5T2) (a17 : Q5T3) (a18 : Q5T4) (a26 : Q5T5) (a27 : Q5T6) (a28 : Q5T7) (a29 : Q5T8) (a30 : Q5T9) (want0 : Bool) (N : Nat) (r1 : Int × List (List Int) × Unit) (r6 : List (List UInt8) × Int) (r9 : List (List UInt8 × Int)) (joined24_b : List UInt8) (t131_b : Int) (h13 : Int × Int) (g14 : List (Int × Int)) (T5_1 : Q5T10) (T5_2 : Q5T10) (m : Nat) (m28_d : Int) : R5_3 a11 a13 a15 a17 a18 a26 a27 a28 a29 a30 want0 N T5_1 T5_2 (m + 1) (Sl5d r1 r6 r9 joined24_b t131_b h13 g14 m28_d) = cond (decide (m28_d < h13.1)) (chk (decide (0 ≤ m28_d ∧ m28_d < ((r6.1.getD t131_b.toNat ([] : List UInt8)).length : Int))) (chk (decide (0 ≤ h13.1 ∧ h13.1 < ((r6.1.getD t131_b.toNat ([] : List UInt8)).length : Int))) ((a30 r1 ((((r6.1.getD t131_b.toNat ([] : List UInt8)).getD m28_d.toNat 0).toNat : Nat) : Int) ((((r6.1.getD t131_b.toNat ([] : List UInt8)).getD h13.1.toNat 0).toNat : Nat) : Int)).bind fun r15 =>
   cond (!r15) (chk (decide (false = want0)) (some ()))
   ((R5_3 a11 a13 a15 a17 a18 a26 a27 a28 a29 a30 want0 N T5_1 T5_2 m (Sl5d r1 r6 r9 joined24_b t131_b h13 g14 (w64 (m28_d + (1 : Int)))))))))
   ((R5_4 a11 a13 a15 a17 a18 a26 a27 a28 a29 a30 want0 N T5_1 T5_2 N (Sl5e r1 r6 r9 joined24_b t131_b h13 g14 (t131_b == (0 : Int)) (0 : Int)))) := by kernel_rfl
theorem ql5d (a11 : Q5T0) (a13 : Q5T1) (a15 : Q5T2) (a17 : Q5T3) (a18 : Q5T4) (a26 : Q5T5) (a27 : Q5T6) (a28 : Q5T7) (a29 : Q5T8) (a30 : Q5T9) (want0 : Bool) (N : Nat) (r1 : Int × List (List Int) × Unit) (r6 : List (List UInt8) × Int) (r9 : List (List UInt8 × Int)) (joined24_b : List UInt8) (t131_b : Int) (h13 : Int × Int) (g14 : List (Int × Int)) (T5_1 : Q5T10) (T5_2 : Q5T10) : ∀ (m : Nat) (m28_d : Int), R5_3 a11 a13 a15 a17 a18 a26 a27 a28 a29 a30 want0 N T5_1 T5_2 m (Sl5d r1 r6 r9 joined24_b t131_b h13 g14 m28_d) = l5d a11 a13 a15 a17 a18 a26 a27 a28 a29 a30 want0 N r1 r6 r9 joined24_b t131_b h13 g14 (fun y0 => T5_2 (Sl5c r1 r6 r9 joined24_b t131_b y0)) m m28_d
        | 0, _ => rfl
        | m + 1, m28_d => by rw [wl5d]; simp only [l5d, ql5e, ql5d a11 a13 a15 a17 a18 a26 a27 a28 a29 a30 want0 N r1 r6 r9 joined24_b t131_b h13 g14 T5_1 T5_2 m]
def l5c (a11 : Q5T0) (a13 : Q5T1) (a15 : Q5T2) (a17 : Q5T3) (a18 : Q5T4) (a26 : Q5T5) (a27 : Q5T6) (a28 : Q5T7) (a29 : Q5T8) (a30 : Q5T9) (want0 : Bool) (N : Nat) (r1 : Int × List (List Int) × Unit) (r6 : List (List UInt8) × Int) (r9 : List (List UInt8 × Int)) (joined24_b : List UInt8) (t131_b : Int) (rec_l5b : (List UInt8) → Int → Option (Unit)) : Nat → (List (Int × Int)) → Option (Unit)
 | 0, _ => none
 | n + 1, o137_c => sitK o137_c (cond ((r6.1.getD t131_b.toNat ([] : List UInt8)) == ([] : List UInt8)) (chk (decide (false = want0)) (some ()))
   (chk (decide (joined24_b.length + (r6.1.getD t131_b.toNat ([] : List UInt8)).length ≤ 9223372036854775807)) ((rec_l5b (joined24_b ++ (r6.1.getD t131_b.toNat ([] : List UInt8))) (w64 (t131_b + (1 : Int))))))) (fun h13 => fun g14 =>
   cond (decide (h13.1 > (0 : Int))) (chk (decide (0 ≤ h13.1 ∧ h13.1 < ((r6.1.getD t131_b.toNat ([] : List UInt8)).length : Int))) (chk (decide (0 ≤ w64 (h13.1 - (1 : Int)) ∧ w64 (h13.1 - (1 : Int)) < ((r6.1.getD t131_b.toNat ([] : List UInt8)).length : Int))) (cond (decide (((((r6.1.getD t131_b.toNat ([] : List UInt8)).getD h13.1.toNat 0).toNat : Nat) : Int) < ((((r6.1.getD t131_b.toNat ([] : List UInt8)).getD ((w64 (h13.1 - (1 : Int))).toNat) 0).toNat : Nat) : Int))) (chk (decide (false = want0)) (some ()))
   ((l5d a11 a13 a15 a17 a18 a26 a27 a28 a29 a30 want0 N r1 r6 r9 joined24_b t131_b h13 g14 (fun y0 => (l5c a11 a13 a15 a17 a18 a26 a27 a28 a29 a30 want0 N r1 r6 r9 joined24_b t131_b rec_l5b n y0)) N (0 : Int))))))
   ((l5d a11 a13 a15 a17 a18 a26 a27 a28 a29 a30 want0 N r1 r6 r9 joined24_b t131_b h13 g14 (fun y0 => (l5c a11 a13 a15 a17 a18 a26 a27 a28 a29 a30 want0 N r1 r6 r9 joined24_b t131_b rec_l5b n y0)) N (0 : Int))))
theorem wl5c (a11 : Q5T0) (a13 : Q5T1) (a15 : Q5T2) (a17 : Q5T3) (a18 : Q5T4) (a26 : Q5T5) (a27 : Q5T6) (a28 : Q5T7) (a29 : Q5T8) (a30 : Q5T9) (want0 : Bool) (N : Nat) (r1 : Int × List (List Int) × Unit) (r6 : List (List UInt8) × Int) (r9 : List (List UInt8 × Int)) (joined24_b : List UInt8) (t131_b : Int) (T5_1 : Q5T10) (m : Nat) (o137_c : List (Int × Int)) : R5_2 a11 a13 a15 a17 a18 a26 a27 a28 a29 a30 want0 N T5_1 (m + 1) (Sl5c r1 r6 r9 joined24_b t131_b o137_c) = sitK o137_c (cond ((r6.1.getD t131_b.toNat ([] : List UInt8)) == ([] : List UInt8)) (chk (decide (false = want0)) (some ()))
   (chk (decide (joined24_b.length + (r6.1.getD t131_b.toNat ([] : List UInt8)).length ≤ 9223372036854775807)) ((T5_1 (Sl5b r1 r6 r9 (joined24_b ++ (r6.1.getD t131_b.toNat ([] : List UInt8))) (w64 (t131_b + (1 : Int)))))))) (fun h13 => fun g14 =>
   cond (decide (h13.1 > (0 : Int))) (chk (decide (0 ≤ h13.1 ∧ h13.1 < ((r6.1.getD t131_b.toNat ([] : List UInt8)).length : Int))) (chk (decide (0 ≤ w64 (h13.1 - (1 : Int)) ∧ w64 (h13.1 - (1 : Int)) < ((r6.1.getD t131_b.toNat ([] : List UInt8)).length : Int))) (cond (decide (((((r6.1.getD t131_b.toNat ([] : List UInt8)).getD h13.1.toNat 0).toNat : Nat) : Int) < ((((r6.1.getD t131_b.toNat ([] : List UInt8)).getD ((w64 (h13.1 - (1 : Int))).toNat) 0).toNat : Nat) : Int))) (chk (decide (false = want0)) (some ()))
   ((R5_3 a11 a13 a15 a17 a18 a26 a27 a28 a29 a30 want0 N T5_1 (R5_2 a11 a13 a15 a17 a18 a26 a27 a28 a29 a30 want0 N T5_1 m) N (Sl5d r1 r6 r9 joined24_b t131_b h13 g14 (0 : Int)))))))
   ((R5_3 a11 a13 a15 a17 a18 a26 a27 a28 a29 a30 want0 N T5_1 (R5_2 a11 a13 a15 a17 a18 a26 a27 a28 a29 a30 want0 N T5_1 m) N (Sl5d r1 r6 r9 joined24_b t131_b h13 g14 (0 : Int))))) := by kernel_rfl
theorem ql5c (a11 : Q5T0) (a13 : Q5T1) (a15 : Q5T2) (a17 : Q5T3) (a18 : Q5T4) (a26 : Q5T5) (a27 : Q5T6) (a28 : Q5T7) (a29 : Q5T8) (a30 : Q5T9) (want0 : Bool) (N : Nat) (r1 : Int × List (List Int) × Unit) (r6 : List (List UInt8) × Int) (r9 : List (List UInt8 × Int)) (joined24_b : List UInt8) (t131_b : Int) (T5_1 : Q5T10) : ∀ (m : Nat) (o137_c : List (Int × Int)), R5_2 a11 a13 a15 a17 a18 a26 a27 a28 a29 a30 want0 N T5_1 m (Sl5c r1 r6 r9 joined24_b t131_b o137_c) = l5c a11 a13 a15 a17 a18 a26 a27 a28 a29 a30 want0 N r1 r6 r9 joined24_b t131_b (fun y0 y1 => T5_1 (Sl5b r1 r6 r9 y0 y1)) m o137_c
        | 0, _ => rfl
        | m + 1, o137_c => by rw [wl5c]; simp only [l5c, ql5d, ql5c a11 a13 a15 a17 a18 a26 a27 a28 a29 a30 want0 N r1 r6 r9 joined24_b t131_b T5_1 m]
def l5b (a11 : Q5T0) (a13 : Q5T1) (a15 : Q5T2) (a17 : Q5T3) (a18 : Q5T4) (a26 : Q5T5) (a27 : Q5T6) (a28 : Q5T7) (a29 : Q5T8) (a30 : Q5T9) (want0 : Bool) (N : Nat) (r1 : Int × List (List Int) × Unit) (r6 : List (List UInt8) × Int) (r9 : List (List UInt8 × Int)) : Nat → (List UInt8) → Int → Option (Unit)
 | 0, _, _ => none
 | n + 1, joined24_b, t131_b => cond (decide (t131_b < (r6.1.length : Int))) (chk (decide (0 ≤ t131_b ∧ t131_b < (r6.1.length : Int))) (chk (asc (r6.1.getD t131_b.toNat ([] : List UInt8))) ((l5c a11 a13 a15 a17 a18 a26 a27 a28 a29 a30 want0 N r1 r6 r9 joined24_b t131_b (fun y0 y1 => (l5b a11 a13 a15 a17 a18 a26 a27 a28 a29 a30 want0 N r1 r6 r9 n y0 y1)) N (sitL 0 (r6.1.getD t131_b.toNat ([] : List UInt8)))))))
   ((a15 r1 joined24_b).bind fun r17 =>
   cond ((mget (kt := .str) (vt := .int .i64) r9 joined24_b).isSome) (cond (r17.2 == (0 : Int)) ((a17 r17.1 r6.1).bind fun r18 =>
   cond (r18) ((a11).bind fun r19 =>
   chk (decide (r19 = want0)) (some ()))
   (chk (decide (false = want0)) (some ())))
   (chk (decide (false = want0)) (some ())))
   (chk (decide (false = want0)) (some ())))
theorem wl5b (a11 : Q5T0) (a13 : Q5T1) (a15 : Q5T2) (a17 : Q5T3) (a18 : Q5T4) (a26 : Q5T5) (a27 : Q5T6) (a28 : Q5T7) (a29 : Q5T8) (a30 : Q5T9) (want0 : Bool) (N : Nat) (r1 : Int × List (List Int) × Unit) (r6 : List (List UInt8) × Int) (r9 : List (List UInt8 × Int)) (m : Nat) (joined24_b : List UInt8) (t131_b : Int) : R5_1 a11 a13 a15 a17 a18 a26 a27 a28 a29 a30 want0 N (m + 1) (Sl5b r1 r6 r9 joined24_b t131_b) = cond (decide (t131_b < (r6.1.length : Int))) (chk (decide (0 ≤ t131_b ∧ t131_b < (r6.1.length : Int))) (chk (asc (r6.1.getD t131_b.toNat ([] : List UInt8))) ((R5_2 a11 a13 a15 a17 a18 a26 a27 a28 a29 a30 want0 N (R5_1 a11 a13 a15 a17 a18 a26 a27 a28 a29 a30 want0 N m) N (Sl5c r1 r6 r9 joined24_b t131_b (sitL 0 (r6.1.getD t131_b.toNat ([] : List UInt8))))))))
   ((a15 r1 joined24_b).bind fun r17 =>
   cond ((mget (kt := .str) (vt := .int .i64) r9 joined24_b).isSome) (cond (r17.2 == (0 : Int)) ((a17 r17.1 r6.1).bind fun r18 =>
   cond (r18) ((a11).bind fun r19 =>
   chk (decide (r19 = want0)) (some ()))
   (chk (decide (false = want0)) (some ())))
   (chk (decide (false = want0)) (some ())))
   (chk (decide (false = want0)) (some ()))) := by kernel_rfl
theorem ql5b (a11 : Q5T0) (a13 : Q5T1) (a15 : Q5T2) (a17 : Q5T3) (a18 : Q5T4) (a26 : Q5T5) (a27 : Q5T6) (a28 : Q5T7) (a29 : Q5T8) (a30 : Q5T9) (want0 : Bool) (N : Nat) (r1 : Int × List (List Int) × Unit) (r6 : List (List UInt8) × Int) (r9 : List (List UInt8 × Int)) : ∀ (m : Nat) (joined24_b : List UInt8) (t131_b : Int), R5_1 a11 a13 a15 a17 a18 a26 a27 a28 a29 a30 want0 N m (Sl5b r1 r6 r9 joined24_b t131_b) = l5b a11 a13 a15 a17 a18 a26 a27 a28 a29 a30 want0 N r1 r6 r9 m joined24_b t131_b
        | 0, _, _ => rfl
        | m + 1, joined24_b, t131_b => by rw [wl5b]; simp only [l5b, ql5c, ql5b a11 a13 a15 a17 a18 a26 a27 a28 a29 a30 want0 N r1 r6 r9 m]
def l5a (a11 : Q5T0) (a13 : Q5T1) (a15 : Q5T2) (a17 : Q5T3) (a18 : Q5T4) (a26 : Q5T5) (a27 : Q5T6) (a28 : Q5T7) (a29 : Q5T8) (a30 : Q5T9) (want0 : Bool) (N : Nat) (r1 : Int × List (List Int) × Unit) (r4 : List UInt8 × Int) (r6 : List (List UInt8) × Int) (r9 : List (List UInt8 × Int)) : Nat → (List (List UInt8 × Int)) → Option (Unit)
 | 0, _ => none
 | n + 1, o121_a => eachK o121_a ((l5b a11 a13 a15 a17 a18 a26 a27 a28 a29 a30 want0 N r1 r6 r9 N ([] : List UInt8) (0 : Int))) (fun h11 => fun g12 =>
   cond (Op.bytesLess h11.1 r4.1) (chk (decide (false = want0)) (some ()))
   ((l5a a11 a13 a15 a17 a18 a26 a27 a28 a29 a30 want0 N r1 r4 r6 r9 n g12)))
theorem wl5a (a11 : Q5T0) (a13 : Q5T1) (a15 : Q5T2) (a17 : Q5T3) (a18 : Q5T4) (a26 : Q5T5) (a27 : Q5T6) (a28 : Q5T7) (a29 : Q5T8) (a30 : Q5T9) (want0 : Bool) (N : Nat) (r1 : Int × List (List Int) × Unit) (r4 : List UInt8 × Int) (r6 : List (List UInt8) × Int) (r9 : List (List UInt8 × Int)) (m : Nat) (o121_a : List (List UInt8 × Int)) : R5_0 a11 a13 a15 a17 a18 a26 a27 a28 a29 a30 want0 N (m + 1) (Sl5a r1 r4 r6 r9 o121_a) = eachK o121_a ((R5_1 a11 a13 a15 a17 a18 a26 a27 a28 a29 a30 want0 N N (Sl5b r1 r6 r9 ([] : List UInt8) (0 : Int)))) (fun h11 => fun g12 =>
   cond (Op.bytesLess h11.1 r4.1) (chk (decide (false = want0)) (some ()))
   ((R5_0 a11 a13 a15 a17 a18 a26 a27 a28 a29 a30 want0 N m (Sl5a r1 r4 r6 r9 g12)))) := by kernel_rfl
theorem ql5a (a11 : Q5T0) (a13 : Q5T1) (a15 : Q5T2) (a17 : Q5T3) (a18 : Q5T4) (a26 : Q5T5) (a27 : Q5T6) (a28 : Q5T7) (a29 : Q5T8) (a30 : Q5T9) (want0 : Bool) (N : Nat) (r1 : Int × List (List Int) × Unit) (r4 : List UInt8 × Int) (r6 : List (List UInt8) × Int) (r9 : List (List UInt8 × Int)) : ∀ (m : Nat) (o121_a : List (List UInt8 × Int)), R5_0 a11 a13 a15 a17 a18 a26 a27 a28 a29 a30 want0 N m (Sl5a r1 r4 r6 r9 o121_a) = l5a a11 a13 a15 a17 a18 a26 a27 a28 a29 a30 want0 N r1 r4 r6 r9 m o121_a
        | 0, _ => rfl
        | m + 1, o121_a => by rw [wl5a]; simp only [l5a, ql5b, ql5a a11 a13 a15 a17 a18 a26 a27 a28 a29 a30 want0 N r1 r4 r6 r9 m]
def m5 (a11 : Q5T0) (a13 : Q5T1) (a15 : Q5T2) (a17 : Q5T3) (a18 : Q5T4) (a26 : Q5T5) (a27 : Q5T6) (a28 : Q5T7) (a29 : Q5T8) (a30 : Q5T9) (want0 : Bool) (N : Nat) (d0 : Int × Int × Unit) (p1 : List Int) (by2 : List Int) : Option (Unit) :=
   (a26 d0).bind fun r1 =>
   (a27 p1 r1 (7 : Int)).bind fun r2 =>
   (a28 r1 r2 by2).bind fun r3 =>
   (a13 r1 r2).bind fun r4 =>
   (a13 r1 r3).bind fun r5 =>
   (a15 r1 r2).bind fun r6 =>
   (a15 r1 r3).bind fun r7 =>
   (a18 r1 r3).bind fun r8 =>
   (a29 r1 r2).bind fun r9 =>
   cond (r4.2 != (0 : Int)) (chk (decide (false = want0)) (some ()))
   (cond (r5.2 != (0 : Int)) (chk (decide (false = want0)) (some ()))
   (cond (r6.2 != (0 : Int)) (chk (decide (false = want0)) (some ()))
   (cond (r7.2 != (0 : Int)) (chk (decide (false = want0)) (some ()))
   (cond (r8.2 != (0 : Int)) (chk (decide (false = want0)) (some ()))
   (cond (!(r4.1 == r5.1)) (chk (decide (false = want0)) (some ()))
   ((a17 r6.1 r7.1).bind fun r10 =>
   cond (!r10) (chk (decide (false = want0)) (some ()))
   (cond (r8.1 != (r9.length : Int)) (chk (decide (false = want0)) (some ()))
   (cond (!((mget (kt := .str) (vt := .int .i64) r9 r4.1).isSome)) (chk (decide (false = want0)) (some ()))
   ((l5a a11 a13 a15 a17 a18 a26 a27 a28 a29 a30 want0 N r1 r4 r6 r9 N r9))))))))))
theorem wm5 (a11 : Q5T0) (a13 : Q5T1) (a15 : Q5T2) (a17 : Q5T3) (a18 : Q5T4) (a26 : Q5T5) (a27 : Q5T6) (a28 : Q5T7) (a29 : Q5T8) (a30 : Q5T9) (want0 : Bool) (N : Nat) (d0 : Int × Int × Unit) (p1 : List Int) (by2 : List Int) : callF (E5 a11 a13 a15 a17 a18 a26 a27 a28 a29 a30 want0) lv5 N en5 c5 (resOf Tryd.f5) 229 [.dv (.pair (.int .u8) (.pair (.int .u8) (.unit))) d0, .dv (.sl (.int .u8)) p1, .dv (.sl (.int .u8)) by2] [] (dec5 want0) = (a26 d0).bind fun r1 =>
   (a27 p1 r1 (7 : Int)).bind fun r2 =>
   (a28 r1 r2 by2).bind fun r3 =>
   (a13 r1 r2).bind fun r4 =>
   (a13 r1 r3).bind fun r5 =>
   (a15 r1 r2).bind fun r6 =>
   (a15 r1 r3).bind fun r7 =>
   (a18 r1 r3).bind fun r8 =>
   (a29 r1 r2).bind fun r9 =>
   cond (r4.2 != (0 : Int)) (chk (decide (false = want0)) (some ()))
   (cond (r5.2 != (0 : Int)) (chk (decide (false = want0)) (some ()))
   (cond (r6.2 != (0 : Int)) (chk (decide (false = want0)) (some ()))
   (cond (r7.2 != (0 : Int)) (chk (decide (false = want0)) (some ()))
   (cond (r8.2 != (0 : Int)) (chk (decide (false = want0)) (some ()))
   (cond (!(r4.1 == r5.1)) (chk (decide (false = want0)) (some ()))
   ((a17 r6.1 r7.1).bind fun r10 =>
   cond (!r10) (chk (decide (false = want0)) (some ()))
   (cond (r8.1 != (r9.length : Int)) (chk (decide (false = want0)) (some ()))
   (cond (!((mget (kt := .str) (vt := .int .i64) r9 r4.1).isSome)) (chk (decide (false = want0)) (some ()))
   ((R5_0 a11 a13 a15 a17 a18 a26 a27 a28 a29 a30 want0 N N (Sl5a r1 r4 r6 r9 r9))))))))))) := by kernel_rfl
theorem k5 (a11 : Q5T0) (a13 : Q5T1) (a15 : Q5T2) (a17 : Q5T3) (a18 : Q5T4) (a26 : Q5T5) (a27 : Q5T6) (a28 : Q5T7) (a29 : Q5T8) (a30 : Q5T9) (want0 : Bool) (N : Nat) (d0 : Int × Int × Unit) (p1 : List Int) (by2 : List Int) : callF (E5 a11 a13 a15 a17 a18 a26 a27 a28 a29 a30 want0) lv5 N en5 c5 (resOf Tryd.f5) 229 [.dv (.pair (.int .u8) (.pair (.int .u8) (.unit))) d0, .dv (.sl (.int .u8)) p1, .dv (.sl (.int .u8)) by2] [] (dec5 want0) = m5 a11 a13 a15 a17 a18 a26 a27 a28 a29 a30 want0 N d0 p1 by2 := by rw [wm5]; simp only [m5, ql5a]
theorem ok5 (a11 : Q5T0) (a13 : Q5T1) (a15 : Q5T2) (a17 : Q5T3) (a18 : Q5T4) (a26 : Q5T5) (a27 : Q5T6) (a28 : Q5T7) (a29 : Q5T8) (a30 : Q5T9) (h11 : FnOk Tryd.prog 11 (F11 a11)) (h13 : FnOk Tryd.prog 13 (F13 a13)) (h15 : FnOk Tryd.prog 15 (F15 a15)) (h17 : FnOk Tryd.prog 17 (F17 a17)) (h18 : FnOk Tryd.prog 18 (F18 a18)) (h26 : FnOk Tryd.prog 26 (F26 a26)) (h27 : FnOk Tryd.prog 27 (F27 a27)) (h28 : FnOk Tryd.prog 28 (F28 a28)) (h29 : FnOk Tryd.prog 29 (F29 a29)) (h30 : FnOk Tryd.prog 30 (F30 a30)) (a : (Int × Int × Unit) → (List Int) → (List Int) → Option (Bool)) (h : ∀ d0 p1 by2 r, a d0 p1 by2 = some r → ∃ N, m5 a11 a13 a15 a17 a18 a26 a27 a28 a29 a30 r N d0 p1 by2 = some ()) : FnOk Tryd.prog 5 (F5 a) := by
 intro args Of r hx
 simp only [F5] at hx
 split at hx
 ·rename_i d0 p1 by2
  obtain ⟨N, hN⟩ := h _ _ _ _ hx
  refine liftedW (L := [(11, F11 a11), (13, F13 a13), (15, F15 a15), (17, F17 a17), (18, F18 a18), (26, F26 a26), (27, F27 a27), (28, F28 a28), (29, F29 a29), (30, F30 a30)]) (rc := nrc) (fz := nfz) (tw := fun i => ([] : List (Nat × Nat)).lookup i) (fn := Tryd.f5) (by kernel_rfl) (by kernel_rfl) (by kernel_rfl) (by kernel_rfl) rfl ?_ ((k5 a11 a13 a15 a17 a18 a26 a27 a28 a29 a30 r N _ _ _).trans hN) ?_
  ·intro p hp; simp only [List.mem_cons, List.not_mem_nil, or_false] at hp; rcases hp with rfl | rfl | rfl | rfl | rfl | rfl | rfl | rfl | rfl | rfl
   ·exact h11
   ·exact h13
   ·exact h15
   ·exact h17
   ·exact h18
   ·exact h26
   ·exact h27
   ·exact h28
   ·exact h29
   ·exact h30
  ·intro l o hd
   simp only [dec5] at hd
   split at hd
   ·have hq := (chk_some hd).1
    simp only [decide_eq_true_eq] at hq
    subst hq
    exact ⟨rfl, rfl⟩
   ·cases hd
 ·cases hx
end Go.Proofs.YtmpbbkldopfkpaaDoor
