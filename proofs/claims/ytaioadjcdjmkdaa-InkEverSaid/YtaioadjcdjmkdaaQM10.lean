import Derived.Test.YtaioadjcdjmkdaaQFI
namespace Go.Proofs.Ytaioadjcdjmkdaa
open Go.RowKit
set_option linter.unusedVariables false
def E10 (a16 : Option (Bool)) (a29 : (Int × List (List Int) × Unit) → Option (List Int × Int)) (a31 : (Int × List (List Int) × Unit) → (List Int) → Int → Option (Int)) (a35 : (Int × List (List Int) × Unit) → Int → Option (Int × Int)) (a41 : (Int × List (List Int) × Unit) → Option (Int × List (List Int) × Unit)) (a46c48 : Int → Int → (List (Int × List (List Int) × Unit)) → Int → Option (Bool × List (Int × List (List Int) × Unit) × Int)) : Env := mkE TI TY [(16, F16 a16), (29, F29 a29), (31, F31 a31), (35, F35 a35), (41, F41 a41), (46, F46c48 a46c48)] nrc nfz
noncomputable def c10 : Code := bodyOf Try.f10
def nm10_0 : Norm := ⟨[2, 7, 8, 9, 10], [7, 8], [], []⟩
def nm10_1 : Norm := ⟨[2, 7, 8, 9, 11, 13, 14, 15, 64, 65, 66], [7, 8], [], []⟩
def nm10_2 : Norm := ⟨[2, 7, 8, 9, 20], [7, 8], [(.slot 19, 1019, .int .i64)], []⟩
def nm10_3 : Norm := ⟨[2, 7, 8, 9, 19, 21, 142, 143, 144], [7, 8, 1019], [], []⟩
def nm10_4 : Norm := ⟨[2, 7, 8, 9, 19, 21, 23, 142, 143, 144, 149, 150, 151], [7, 8, 1019], [], []⟩
def lv10 : Nat → Option Norm := norms [(5, nm10_0), (15, nm10_1), (26, nm10_2), (32, nm10_3), (35, nm10_4)]
def en10 : End := ⟨[], ⟨[192], [], [], []⟩⟩
def dec10 (l : List TV) (o : List (Nat × TO)) : Option (Bool) := match l, o with | [.dv (.bool) x0], [] => some (x0) | _, _ => none
noncomputable def K10_0 (a16 : Option (Bool)) (a29 : (Int × List (List Int) × Unit) → Option (List Int × Int)) (a31 : (Int × List (List Int) × Unit) → (List Int) → Int → Option (Int)) (a35 : (Int × List (List Int) × Unit) → Int → Option (Int × Int)) (a41 : (Int × List (List Int) × Unit) → Option (Int × List (List Int) × Unit)) (a46c48 : Int → Int → (List (Int × List (List Int) × Unit)) → Int → Option (Bool × List (Int × List (List Int) × Unit) × Int)) (N : Nat) : Kont (Bool) := kont (E10 a16 a29 a31 a35 a41 a46c48) lv10 N c10 [1, 1, 1, 1, 0, 1, 0] (fin TI en10 (resOf Try.f10) dec10)
noncomputable def R10_0 (a16 : Option (Bool)) (a29 : (Int × List (List Int) × Unit) → Option (List Int × Int)) (a31 : (Int × List (List Int) × Unit) → (List Int) → Int → Option (Int)) (a35 : (Int × List (List Int) × Unit) → Int → Option (Int × Int)) (a41 : (Int × List (List Int) × Unit) → Option (Int × List (List Int) × Unit)) (a46c48 : Int → Int → (List (Int × List (List Int) × Unit)) → Int → Option (Bool × List (Int × List (List Int) × Unit) × Int)) (N : Nat) (m : Nat) : TS → Option (Bool) := loopK (den (E10 a16 a29 a31 a35 a41 a46c48) lv10 N (sub c10 [1, 1, 1, 1, 0, 1, 0, 0])) (TS.norm nm10_0) (K10_0 a16 a29 a31 a35 a41 a46c48 N) m
noncomputable def K10_1 (a16 : Option (Bool)) (a29 : (Int × List (List Int) × Unit) → Option (List Int × Int)) (a31 : (Int × List (List Int) × Unit) → (List Int) → Int → Option (Int)) (a35 : (Int × List (List Int) × Unit) → Int → Option (Int × Int)) (a41 : (Int × List (List Int) × Unit) → Option (Int × List (List Int) × Unit)) (a46c48 : Int → Int → (List (Int × List (List Int) × Unit)) → Int → Option (Bool × List (Int × List (List Int) × Unit) × Int)) (N : Nat) : Kont (Bool) := kont (E10 a16 a29 a31 a35 a41 a46c48) lv10 N c10 [1, 1, 1, 1, 1, 1, 1, 1, 1, 0, 1, 0] (fin TI en10 (resOf Try.f10) dec10)
noncomputable def R10_1 (a16 : Option (Bool)) (a29 : (Int × List (List Int) × Unit) → Option (List Int × Int)) (a31 : (Int × List (List Int) × Unit) → (List Int) → Int → Option (Int)) (a35 : (Int × List (List Int) × Unit) → Int → Option (Int × Int)) (a41 : (Int × List (List Int) × Unit) → Option (Int × List (List Int) × Unit)) (a46c48 : Int → Int → (List (Int × List (List Int) × Unit)) → Int → Option (Bool × List (Int × List (List Int) × Unit) × Int)) (N : Nat) (m : Nat) : TS → Option (Bool) := loopK (den (E10 a16 a29 a31 a35 a41 a46c48) lv10 N (sub c10 [1, 1, 1, 1, 1, 1, 1, 1, 1, 0, 1, 0, 0])) (TS.norm nm10_1) (K10_1 a16 a29 a31 a35 a41 a46c48 N) m
noncomputable def K10_2 (a16 : Option (Bool)) (a29 : (Int × List (List Int) × Unit) → Option (List Int × Int)) (a31 : (Int × List (List Int) × Unit) → (List Int) → Int → Option (Int)) (a35 : (Int × List (List Int) × Unit) → Int → Option (Int × Int)) (a41 : (Int × List (List Int) × Unit) → Option (Int × List (List Int) × Unit)) (a46c48 : Int → Int → (List (Int × List (List Int) × Unit)) → Int → Option (Bool × List (Int × List (List Int) × Unit) × Int)) (N : Nat) : Kont (Bool) := kont (E10 a16 a29 a31 a35 a41 a46c48) lv10 N c10 [1, 1, 1, 1, 1, 1, 1, 1, 1, 1, 1, 1, 1, 0, 1, 0] (fin TI en10 (resOf Try.f10) dec10)
noncomputable def R10_2 (a16 : Option (Bool)) (a29 : (Int × List (List Int) × Unit) → Option (List Int × Int)) (a31 : (Int × List (List Int) × Unit) → (List Int) → Int → Option (Int)) (a35 : (Int × List (List Int) × Unit) → Int → Option (Int × Int)) (a41 : (Int × List (List Int) × Unit) → Option (Int × List (List Int) × Unit)) (a46c48 : Int → Int → (List (Int × List (List Int) × Unit)) → Int → Option (Bool × List (Int × List (List Int) × Unit) × Int)) (N : Nat) (m : Nat) : TS → Option (Bool) := loopK (den (E10 a16 a29 a31 a35 a41 a46c48) lv10 N (sub c10 [1, 1, 1, 1, 1, 1, 1, 1, 1, 1, 1, 1, 1, 0, 1, 0, 0])) (TS.norm nm10_2) (K10_2 a16 a29 a31 a35 a41 a46c48 N) m
noncomputable def K10_3 (a16 : Option (Bool)) (a29 : (Int × List (List Int) × Unit) → Option (List Int × Int)) (a31 : (Int × List (List Int) × Unit) → (List Int) → Int → Option (Int)) (a35 : (Int × List (List Int) × Unit) → Int → Option (Int × Int)) (a41 : (Int × List (List Int) × Unit) → Option (Int × List (List Int) × Unit)) (a46c48 : Int → Int → (List (Int × List (List Int) × Unit)) → Int → Option (Bool × List (Int × List (List Int) × Unit) × Int)) (N : Nat) : Kont (Bool) := kont (E10 a16 a29 a31 a35 a41 a46c48) lv10 N c10 [1, 1, 1, 1, 1, 1, 1, 1, 1, 1, 1, 1, 1, 1, 1, 0, 1, 0] (fin TI en10 (resOf Try.f10) dec10)
noncomputable def R10_3 (a16 : Option (Bool)) (a29 : (Int × List (List Int) × Unit) → Option (List Int × Int)) (a31 : (Int × List (List Int) × Unit) → (List Int) → Int → Option (Int)) (a35 : (Int × List (List Int) × Unit) → Int → Option (Int × Int)) (a41 : (Int × List (List Int) × Unit) → Option (Int × List (List Int) × Unit)) (a46c48 : Int → Int → (List (Int × List (List Int) × Unit)) → Int → Option (Bool × List (Int × List (List Int) × Unit) × Int)) (N : Nat) (m : Nat) : TS → Option (Bool) := loopK (den (E10 a16 a29 a31 a35 a41 a46c48) lv10 N (sub c10 [1, 1, 1, 1, 1, 1, 1, 1, 1, 1, 1, 1, 1, 1, 1, 0, 1, 0, 0])) (TS.norm nm10_3) (K10_3 a16 a29 a31 a35 a41 a46c48 N) m
noncomputable def K10_4 (a16 : Option (Bool)) (a29 : (Int × List (List Int) × Unit) → Option (List Int × Int)) (a31 : (Int × List (List Int) × Unit) → (List Int) → Int → Option (Int)) (a35 : (Int × List (List Int) × Unit) → Int → Option (Int × Int)) (a41 : (Int × List (List Int) × Unit) → Option (Int × List (List Int) × Unit)) (a46c48 : Int → Int → (List (Int × List (List Int) × Unit)) → Int → Option (Bool × List (Int × List (List Int) × Unit) × Int)) (N : Nat) (T10_3 : TS → Option (Bool)) : Kont (Bool) := kont (E10 a16 a29 a31 a35 a41 a46c48) lv10 N (sub c10 [1, 1, 1, 1, 1, 1, 1, 1, 1, 1, 1, 1, 1, 1, 1, 0, 1, 0, 0]) [1, 1, 0, 0, 1, 1, 0] (kloop (TS.norm nm10_3) (K10_3 a16 a29 a31 a35 a41 a46c48 N) T10_3)
noncomputable def R10_4 (a16 : Option (Bool)) (a29 : (Int × List (List Int) × Unit) → Option (List Int × Int)) (a31 : (Int × List (List Int) × Unit) → (List Int) → Int → Option (Int)) (a35 : (Int × List (List Int) × Unit) → Int → Option (Int × Int)) (a41 : (Int × List (List Int) × Unit) → Option (Int × List (List Int) × Unit)) (a46c48 : Int → Int → (List (Int × List (List Int) × Unit)) → Int → Option (Bool × List (Int × List (List Int) × Unit) × Int)) (N : Nat) (T10_3 : TS → Option (Bool)) (m : Nat) : TS → Option (Bool) := loopK (den (E10 a16 a29 a31 a35 a41 a46c48) lv10 N (sub c10 [1, 1, 1, 1, 1, 1, 1, 1, 1, 1, 1, 1, 1, 1, 1, 0, 1, 0, 0, 1, 1, 0, 0, 1, 1, 0, 0])) (TS.norm nm10_4) (K10_4 a16 a29 a31 a35 a41 a46c48 N T10_3) m
def Sl10e (list2 : Int) (n9_a : Int) (o7_a : List (Int × List (List Int) × Unit)) (o8_af0 : Int) (some19_c : List Int) (t144_d : Int) (closed21_e : Bool) (t151_e : Int) : TS := ⟨slots 192 [(2, .dv (.int .u8) list2), (7, .ptr 7 0 []), (8, .ptr 8 0 [0]), (9, .dv (.int .i64) n9_a), (19, .row 1019), (21, .dv (.bool) closed21_e), (23, .dv (.int .i64) (some19_c.getD t144_d.toNat (0 : Int))), (142, .row 1019), (143, .dv (.int .i64) (some19_c.length : Int)), (144, .dv (.int .i64) t144_d), (149, .dv (.sl (.sl (.int .i64))) (((o7_a.getD 0 ((0 : Int), (([] : List (List Int)), ()))).2).1)), (150, .dv (.int .i64) ((((o7_a.getD 0 ((0 : Int), (([] : List (List Int)), ()))).2).1).length : Int)), (151, .dv (.int .i64) t151_e)], [(7, .row (.pair (.int .i64) (.pair (.sl (.sl (.int .i64))) (.unit))) o7_a), (8, .rcd [.dv (.int .i64) o8_af0]), (1019, .row (.int .i64) some19_c)]⟩
def Sl10d (list2 : Int) (n9_a : Int) (o7_a : List (Int × List (List Int) × Unit)) (o8_af0 : Int) (some19_c : List Int) (closed21_d : Bool) (t144_d : Int) : TS := ⟨slots 192 [(2, .dv (.int .u8) list2), (7, .ptr 7 0 []), (8, .ptr 8 0 [0]), (9, .dv (.int .i64) n9_a), (19, .row 1019), (21, .dv (.bool) closed21_d), (142, .row 1019), (143, .dv (.int .i64) (some19_c.length : Int)), (144, .dv (.int .i64) t144_d)], [(7, .row (.pair (.int .i64) (.pair (.sl (.sl (.int .i64))) (.unit))) o7_a), (8, .rcd [.dv (.int .i64) o8_af0]), (1019, .row (.int .i64) some19_c)]⟩
def Sl10c (list2 : Int) (n9_a : Int) (o7_a : List (Int × List (List Int) × Unit)) (o8_af0 : Int) (x20_c : Int) (some19_c : List Int) : TS := ⟨slots 192 [(2, .dv (.int .u8) list2), (7, .ptr 7 0 []), (8, .ptr 8 0 [0]), (9, .dv (.int .i64) n9_a), (19, .row 1019), (20, .dv (.int .i64) x20_c)], [(1019, .row (.int .i64) some19_c), (7, .row (.pair (.int .i64) (.pair (.sl (.sl (.int .i64))) (.unit))) o7_a), (8, .rcd [.dv (.int .i64) o8_af0])]⟩
def Sl10b (list2 : Int) (n9_a : Int) (o7_a : List (Int × List (List Int) × Unit)) (o8_af0 : Int) (all11_b : List Int) (m13_b : Int) (g14_b : Int) (is15_b : Bool) (t64_b : List Int) (t65_b : Int) (t66_b : Int) : TS := ⟨slots 192 [(2, .dv (.int .u8) list2), (7, .ptr 7 0 []), (8, .ptr 8 0 [0]), (9, .dv (.int .i64) n9_a), (11, .dv (.sl (.int .i64)) all11_b), (13, .dv (.int .i64) m13_b), (14, .dv (.int .i64) g14_b), (15, .dv (.bool) is15_b), (64, .dv (.sl (.int .i64)) t64_b), (65, .dv (.int .i64) t65_b), (66, .dv (.int .i64) t66_b)], [(7, .row (.pair (.int .i64) (.pair (.sl (.sl (.int .i64))) (.unit))) o7_a), (8, .rcd [.dv (.int .i64) o8_af0])]⟩
def Sl10a (list2 : Int) (n9_a : Int) (size10_a : Int) (o7_a : List (Int × List (List Int) × Unit)) (o8_af0 : Int) : TS := ⟨slots 192 [(2, .dv (.int .u8) list2), (7, .ptr 7 0 []), (8, .ptr 8 0 [0]), (9, .dv (.int .i64) n9_a), (10, .dv (.int .i64) size10_a)], [(7, .row (.pair (.int .i64) (.pair (.sl (.sl (.int .i64))) (.unit))) o7_a), (8, .rcd [.dv (.int .i64) o8_af0])]⟩
def l10e (a16 : Option (Bool)) (a29 : (Int × List (List Int) × Unit) → Option (List Int × Int)) (a31 : (Int × List (List Int) × Unit) → (List Int) → Int → Option (Int)) (a35 : (Int × List (List Int) × Unit) → Int → Option (Int × Int)) (a41 : (Int × List (List Int) × Unit) → Option (Int × List (List Int) × Unit)) (a46c48 : Int → Int → (List (Int × List (List Int) × Unit)) → Int → Option (Bool × List (Int × List (List Int) × Unit) × Int)) (N : Nat) (list2 : Int) (n9_a : Int) (o7_a : List (Int × List (List Int) × Unit)) (o8_af0 : Int) (some19_c : List Int) (t144_d : Int) (rec_l10d : Bool → Int → Option (Bool)) : Nat → Bool → Int → Option (Bool)
  | 0, _, _ => none
  | n + 1, closed21_e, t151_e => cond (decide (t151_e < ((((o7_a.getD 0 ((0 : Int), (([] : List (List Int)), ()))).2).1).length : Int))) (chk (decide (0 ≤ t151_e ∧ t151_e < ((((o7_a.getD 0 ((0 : Int), (([] : List (List Int)), ()))).2).1).length : Int))) (cond (closed21_e) (chk (decide (0 ≤ some19_c.getD t144_d.toNat (0 : Int) ∧ some19_c.getD t144_d.toNat (0 : Int) < (((((o7_a.getD 0 ((0 : Int), (([] : List (List Int)), ()))).2).1).getD t151_e.toNat ([] : List Int)).length : Int))) (chk (decide (0 ≤ ((((o7_a.getD 0 ((0 : Int), (([] : List (List Int)), ()))).2).1).getD t151_e.toNat ([] : List Int)).getD ((some19_c.getD t144_d.toNat (0 : Int)).toNat) (0 : Int))) ((l10e a16 a29 a31 a35 a41 a46c48 N list2 n9_a o7_a o8_af0 some19_c t144_d rec_l10d n ((bAnd .u8 (Int.fdiv list2 (2 ^ min (Int.toNat (((((o7_a.getD 0 ((0 : Int), (([] : List (List Int)), ()))).2).1).getD t151_e.toNat ([] : List Int)).getD ((some19_c.getD t144_d.toNat (0 : Int)).toNat) (0 : Int))) 8)) (1 : Int)) == (1 : Int)) (w64 (t151_e + (1 : Int)))))))
      ((l10e a16 a29 a31 a35 a41 a46c48 N list2 n9_a o7_a o8_af0 some19_c t144_d rec_l10d n false (w64 (t151_e + (1 : Int)))))))
      ((rec_l10d closed21_e (w64 (t144_d + (1 : Int)))))
theorem wl10e (a16 : Option (Bool)) (a29 : (Int × List (List Int) × Unit) → Option (List Int × Int)) (a31 : (Int × List (List Int) × Unit) → (List Int) → Int → Option (Int)) (a35 : (Int × List (List Int) × Unit) → Int → Option (Int × Int)) (a41 : (Int × List (List Int) × Unit) → Option (Int × List (List Int) × Unit)) (a46c48 : Int → Int → (List (Int × List (List Int) × Unit)) → Int → Option (Bool × List (Int × List (List Int) × Unit) × Int)) (N : Nat) (list2 : Int) (n9_a : Int) (o7_a : List (Int × List (List Int) × Unit)) (o8_af0 : Int) (some19_c : List Int) (t144_d : Int) (T10_3 : TS → Option (Bool)) (m : Nat) (closed21_e : Bool) (t151_e : Int) : R10_4 a16 a29 a31 a35 a41 a46c48 N T10_3 (m + 1) (Sl10e list2 n9_a o7_a o8_af0 some19_c t144_d closed21_e t151_e) = cond (decide (t151_e < ((((o7_a.getD 0 ((0 : Int), (([] : List (List Int)), ()))).2).1).length : Int))) (chk (decide (0 ≤ t151_e ∧ t151_e < ((((o7_a.getD 0 ((0 : Int), (([] : List (List Int)), ()))).2).1).length : Int))) (cond (closed21_e) (chk (decide (0 ≤ some19_c.getD t144_d.toNat (0 : Int) ∧ some19_c.getD t144_d.toNat (0 : Int) < (((((o7_a.getD 0 ((0 : Int), (([] : List (List Int)), ()))).2).1).getD t151_e.toNat ([] : List Int)).length : Int))) (chk (decide (0 ≤ ((((o7_a.getD 0 ((0 : Int), (([] : List (List Int)), ()))).2).1).getD t151_e.toNat ([] : List Int)).getD ((some19_c.getD t144_d.toNat (0 : Int)).toNat) (0 : Int))) ((R10_4 a16 a29 a31 a35 a41 a46c48 N T10_3 m (Sl10e list2 n9_a o7_a o8_af0 some19_c t144_d ((bAnd .u8 (Int.fdiv list2 (2 ^ min (Int.toNat (((((o7_a.getD 0 ((0 : Int), (([] : List (List Int)), ()))).2).1).getD t151_e.toNat ([] : List Int)).getD ((some19_c.getD t144_d.toNat (0 : Int)).toNat) (0 : Int))) 8)) (1 : Int)) == (1 : Int)) (w64 (t151_e + (1 : Int))))))))
      ((R10_4 a16 a29 a31 a35 a41 a46c48 N T10_3 m (Sl10e list2 n9_a o7_a o8_af0 some19_c t144_d false (w64 (t151_e + (1 : Int))))))))
      ((T10_3 (Sl10d list2 n9_a o7_a o8_af0 some19_c closed21_e (w64 (t144_d + (1 : Int)))))) := by kernel_rfl
theorem ql10e (a16 : Option (Bool)) (a29 : (Int × List (List Int) × Unit) → Option (List Int × Int)) (a31 : (Int × List (List Int) × Unit) → (List Int) → Int → Option (Int)) (a35 : (Int × List (List Int) × Unit) → Int → Option (Int × Int)) (a41 : (Int × List (List Int) × Unit) → Option (Int × List (List Int) × Unit)) (a46c48 : Int → Int → (List (Int × List (List Int) × Unit)) → Int → Option (Bool × List (Int × List (List Int) × Unit) × Int)) (N : Nat) (list2 : Int) (n9_a : Int) (o7_a : List (Int × List (List Int) × Unit)) (o8_af0 : Int) (some19_c : List Int) (t144_d : Int) (T10_3 : TS → Option (Bool)) : ∀ (m : Nat) (closed21_e : Bool) (t151_e : Int), R10_4 a16 a29 a31 a35 a41 a46c48 N T10_3 m (Sl10e list2 n9_a o7_a o8_af0 some19_c t144_d closed21_e t151_e) = l10e a16 a29 a31 a35 a41 a46c48 N list2 n9_a o7_a o8_af0 some19_c t144_d (fun y0 y1 => T10_3 (Sl10d list2 n9_a o7_a o8_af0 some19_c y0 y1)) m closed21_e t151_e
        | 0, _, _ => rfl
        | m + 1, closed21_e, t151_e => by rw [wl10e]; simp only [l10e, ql10e a16 a29 a31 a35 a41 a46c48 N list2 n9_a o7_a o8_af0 some19_c t144_d T10_3 m]
def l10d (a16 : Option (Bool)) (a29 : (Int × List (List Int) × Unit) → Option (List Int × Int)) (a31 : (Int × List (List Int) × Unit) → (List Int) → Int → Option (Int)) (a35 : (Int × List (List Int) × Unit) → Int → Option (Int × Int)) (a41 : (Int × List (List Int) × Unit) → Option (Int × List (List Int) × Unit)) (a46c48 : Int → Int → (List (Int × List (List Int) × Unit)) → Int → Option (Bool × List (Int × List (List Int) × Unit) × Int)) (N : Nat) (list2 : Int) (n9_a : Int) (o7_a : List (Int × List (List Int) × Unit)) (o8_af0 : Int) (some19_c : List Int) : Nat → Bool → Int → Option (Bool)
  | 0, _, _ => none
  | n + 1, closed21_d, t144_d => cond (decide (t144_d < (some19_c.length : Int))) (chk (decide (0 ≤ t144_d ∧ t144_d < (some19_c.length : Int))) ((l10e a16 a29 a31 a35 a41 a46c48 N list2 n9_a o7_a o8_af0 some19_c t144_d (fun y0 y1 => (l10d a16 a29 a31 a35 a41 a46c48 N list2 n9_a o7_a o8_af0 some19_c n y0 y1)) N closed21_d (0 : Int))))
      (cond (!closed21_d) ((a31 (o7_a.getD 0 ((0 : Int), (([] : List (List Int)), ()))) some19_c o8_af0).bind fun r6 =>
      cond (r6 == (22 : Int)) ((a16).bind fun r7 =>
      some r7)
      (some false))
      (chk (decide (0 ≤ o8_af0)) (cond ((bAnd .u8 (Int.fdiv list2 (2 ^ min (Int.toNat o8_af0) 8)) (1 : Int)) == (1 : Int)) ((a31 (o7_a.getD 0 ((0 : Int), (([] : List (List Int)), ()))) some19_c o8_af0).bind fun r8 =>
      cond (r8 == (13 : Int)) ((a16).bind fun r9 =>
      some r9)
      (some false))
      ((a31 (o7_a.getD 0 ((0 : Int), (([] : List (List Int)), ()))) some19_c o8_af0).bind fun r10 =>
      cond (r10 == (0 : Int)) (cond (decide (n9_a < (0 : Int))) ((a16).bind fun r11 =>
      some r11)
      (some false))
      (some false)))))
theorem wl10d (a16 : Option (Bool)) (a29 : (Int × List (List Int) × Unit) → Option (List Int × Int)) (a31 : (Int × List (List Int) × Unit) → (List Int) → Int → Option (Int)) (a35 : (Int × List (List Int) × Unit) → Int → Option (Int × Int)) (a41 : (Int × List (List Int) × Unit) → Option (Int × List (List Int) × Unit)) (a46c48 : Int → Int → (List (Int × List (List Int) × Unit)) → Int → Option (Bool × List (Int × List (List Int) × Unit) × Int)) (N : Nat) (list2 : Int) (n9_a : Int) (o7_a : List (Int × List (List Int) × Unit)) (o8_af0 : Int) (some19_c : List Int) (m : Nat) (closed21_d : Bool) (t144_d : Int) : R10_3 a16 a29 a31 a35 a41 a46c48 N (m + 1) (Sl10d list2 n9_a o7_a o8_af0 some19_c closed21_d t144_d) = cond (decide (t144_d < (some19_c.length : Int))) (chk (decide (0 ≤ t144_d ∧ t144_d < (some19_c.length : Int))) ((R10_4 a16 a29 a31 a35 a41 a46c48 N (R10_3 a16 a29 a31 a35 a41 a46c48 N m) N (Sl10e list2 n9_a o7_a o8_af0 some19_c t144_d closed21_d (0 : Int)))))
      (cond (!closed21_d) ((a31 (o7_a.getD 0 ((0 : Int), (([] : List (List Int)), ()))) some19_c o8_af0).bind fun r6 =>
      cond (r6 == (22 : Int)) ((a16).bind fun r7 =>
      some r7)
      (some false))
      (chk (decide (0 ≤ o8_af0)) (cond ((bAnd .u8 (Int.fdiv list2 (2 ^ min (Int.toNat o8_af0) 8)) (1 : Int)) == (1 : Int)) ((a31 (o7_a.getD 0 ((0 : Int), (([] : List (List Int)), ()))) some19_c o8_af0).bind fun r8 =>
      cond (r8 == (13 : Int)) ((a16).bind fun r9 =>
      some r9)
      (some false))
      ((a31 (o7_a.getD 0 ((0 : Int), (([] : List (List Int)), ()))) some19_c o8_af0).bind fun r10 =>
      cond (r10 == (0 : Int)) (cond (decide (n9_a < (0 : Int))) ((a16).bind fun r11 =>
      some r11)
      (some false))
      (some false))))) := by kernel_rfl
theorem ql10d (a16 : Option (Bool)) (a29 : (Int × List (List Int) × Unit) → Option (List Int × Int)) (a31 : (Int × List (List Int) × Unit) → (List Int) → Int → Option (Int)) (a35 : (Int × List (List Int) × Unit) → Int → Option (Int × Int)) (a41 : (Int × List (List Int) × Unit) → Option (Int × List (List Int) × Unit)) (a46c48 : Int → Int → (List (Int × List (List Int) × Unit)) → Int → Option (Bool × List (Int × List (List Int) × Unit) × Int)) (N : Nat) (list2 : Int) (n9_a : Int) (o7_a : List (Int × List (List Int) × Unit)) (o8_af0 : Int) (some19_c : List Int) : ∀ (m : Nat) (closed21_d : Bool) (t144_d : Int), R10_3 a16 a29 a31 a35 a41 a46c48 N m (Sl10d list2 n9_a o7_a o8_af0 some19_c closed21_d t144_d) = l10d a16 a29 a31 a35 a41 a46c48 N list2 n9_a o7_a o8_af0 some19_c m closed21_d t144_d
        | 0, _, _ => rfl
        | m + 1, closed21_d, t144_d => by rw [wl10d]; simp only [l10d, ql10e, ql10d a16 a29 a31 a35 a41 a46c48 N list2 n9_a o7_a o8_af0 some19_c m]
def l10c (a16 : Option (Bool)) (a29 : (Int × List (List Int) × Unit) → Option (List Int × Int)) (a31 : (Int × List (List Int) × Unit) → (List Int) → Int → Option (Int)) (a35 : (Int × List (List Int) × Unit) → Int → Option (Int × Int)) (a41 : (Int × List (List Int) × Unit) → Option (Int × List (List Int) × Unit)) (a46c48 : Int → Int → (List (Int × List (List Int) × Unit)) → Int → Option (Bool × List (Int × List (List Int) × Unit) × Int)) (N : Nat) (list2 : Int) (n9_a : Int) (o7_a : List (Int × List (List Int) × Unit)) (o8_af0 : Int) : Nat → Int → (List Int) → Option (Bool)
  | 0, _, _ => none
  | n + 1, x20_c, some19_c => cond (decide (x20_c < ((o7_a.getD 0 ((0 : Int), (([] : List (List Int)), ()))).1))) (chk (decide (0 ≤ x20_c)) (cond ((bAnd .u8 (Int.fdiv list2 (2 ^ min (Int.toNat x20_c) 8)) (1 : Int)) == (1 : Int)) (chk (small (some19_c.length + 1) 8) ((l10c a16 a29 a31 a35 a41 a46c48 N list2 n9_a o7_a o8_af0 n (w64 (x20_c + (1 : Int))) (some19_c ++ ([x20_c] : List Int)))))
      ((l10c a16 a29 a31 a35 a41 a46c48 N list2 n9_a o7_a o8_af0 n (w64 (x20_c + (1 : Int))) some19_c))))
      ((l10d a16 a29 a31 a35 a41 a46c48 N list2 n9_a o7_a o8_af0 some19_c N ((bAnd .u8 list2 (1 : Int)) == (1 : Int)) (0 : Int)))
theorem wl10c (a16 : Option (Bool)) (a29 : (Int × List (List Int) × Unit) → Option (List Int × Int)) (a31 : (Int × List (List Int) × Unit) → (List Int) → Int → Option (Int)) (a35 : (Int × List (List Int) × Unit) → Int → Option (Int × Int)) (a41 : (Int × List (List Int) × Unit) → Option (Int × List (List Int) × Unit)) (a46c48 : Int → Int → (List (Int × List (List Int) × Unit)) → Int → Option (Bool × List (Int × List (List Int) × Unit) × Int)) (N : Nat) (list2 : Int) (n9_a : Int) (o7_a : List (Int × List (List Int) × Unit)) (o8_af0 : Int) (m : Nat) (x20_c : Int) (some19_c : List Int) : R10_2 a16 a29 a31 a35 a41 a46c48 N (m + 1) (Sl10c list2 n9_a o7_a o8_af0 x20_c some19_c) = cond (decide (x20_c < ((o7_a.getD 0 ((0 : Int), (([] : List (List Int)), ()))).1))) (chk (decide (0 ≤ x20_c)) (cond ((bAnd .u8 (Int.fdiv list2 (2 ^ min (Int.toNat x20_c) 8)) (1 : Int)) == (1 : Int)) (chk (small (some19_c.length + 1) 8) ((R10_2 a16 a29 a31 a35 a41 a46c48 N m (Sl10c list2 n9_a o7_a o8_af0 (w64 (x20_c + (1 : Int))) (some19_c ++ ([x20_c] : List Int))))))
      ((R10_2 a16 a29 a31 a35 a41 a46c48 N m (Sl10c list2 n9_a o7_a o8_af0 (w64 (x20_c + (1 : Int))) some19_c)))))
      ((R10_3 a16 a29 a31 a35 a41 a46c48 N N (Sl10d list2 n9_a o7_a o8_af0 some19_c ((bAnd .u8 list2 (1 : Int)) == (1 : Int)) (0 : Int)))) := by kernel_rfl
theorem ql10c (a16 : Option (Bool)) (a29 : (Int × List (List Int) × Unit) → Option (List Int × Int)) (a31 : (Int × List (List Int) × Unit) → (List Int) → Int → Option (Int)) (a35 : (Int × List (List Int) × Unit) → Int → Option (Int × Int)) (a41 : (Int × List (List Int) × Unit) → Option (Int × List (List Int) × Unit)) (a46c48 : Int → Int → (List (Int × List (List Int) × Unit)) → Int → Option (Bool × List (Int × List (List Int) × Unit) × Int)) (N : Nat) (list2 : Int) (n9_a : Int) (o7_a : List (Int × List (List Int) × Unit)) (o8_af0 : Int) : ∀ (m : Nat) (x20_c : Int) (some19_c : List Int), R10_2 a16 a29 a31 a35 a41 a46c48 N m (Sl10c list2 n9_a o7_a o8_af0 x20_c some19_c) = l10c a16 a29 a31 a35 a41 a46c48 N list2 n9_a o7_a o8_af0 m x20_c some19_c
        | 0, _, _ => rfl
        | m + 1, x20_c, some19_c => by rw [wl10c]; simp only [l10c, ql10d, ql10c a16 a29 a31 a35 a41 a46c48 N list2 n9_a o7_a o8_af0 m]
def l10b (a16 : Option (Bool)) (a29 : (Int × List (List Int) × Unit) → Option (List Int × Int)) (a31 : (Int × List (List Int) × Unit) → (List Int) → Int → Option (Int)) (a35 : (Int × List (List Int) × Unit) → Int → Option (Int × Int)) (a41 : (Int × List (List Int) × Unit) → Option (Int × List (List Int) × Unit)) (a46c48 : Int → Int → (List (Int × List (List Int) × Unit)) → Int → Option (Bool × List (Int × List (List Int) × Unit) × Int)) (N : Nat) (list2 : Int) (n9_a : Int) (o7_a : List (Int × List (List Int) × Unit)) (o8_af0 : Int) : Nat → (List Int) → Int → Int → Bool → (List Int) → Int → Int → Option (Bool)
  | 0, _, _, _, _, _, _, _ => none
  | n + 1, all11_b, m13_b, g14_b, is15_b, t64_b, t65_b, t66_b => cond (decide (t66_b < t65_b)) (chk (decide (0 ≤ t66_b ∧ t66_b < (t64_b.length : Int))) (cond (is15_b) ((l10b a16 a29 a31 a35 a41 a46c48 N list2 n9_a o7_a o8_af0 n all11_b m13_b g14_b true t64_b t65_b (w64 (t66_b + (1 : Int)))))
      ((l10b a16 a29 a31 a35 a41 a46c48 N list2 n9_a o7_a o8_af0 n all11_b m13_b g14_b ((t64_b.getD t66_b.toNat (0 : Int)) == o8_af0) t64_b t65_b (w64 (t66_b + (1 : Int)))))))
      (cond (is15_b != (decide (n9_a ≥ (0 : Int)))) (some false)
      (cond (decide (n9_a ≥ (0 : Int))) (cond (g14_b != (0 : Int)) (some false)
      (cond (m13_b != n9_a) (some false)
      (cond (decide (n9_a < (0 : Int))) (cond (g14_b != (14 : Int)) (some false)
      (cond (m13_b != (0 : Int)) (some false)
      ((a31 (o7_a.getD 0 ((0 : Int), (([] : List (List Int)), ()))) all11_b o8_af0).bind fun r5 =>
      cond (decide (n9_a ≥ (0 : Int))) (cond (r5 != (13 : Int)) (some false)
      (cond (decide (n9_a < (0 : Int))) (cond (r5 != (0 : Int)) (some false)
      ((l10c a16 a29 a31 a35 a41 a46c48 N list2 n9_a o7_a o8_af0 N (0 : Int) ([] : List Int))))
      ((l10c a16 a29 a31 a35 a41 a46c48 N list2 n9_a o7_a o8_af0 N (0 : Int) ([] : List Int)))))
      (cond (decide (n9_a < (0 : Int))) (cond (r5 != (0 : Int)) (some false)
      ((l10c a16 a29 a31 a35 a41 a46c48 N list2 n9_a o7_a o8_af0 N (0 : Int) ([] : List Int))))
      ((l10c a16 a29 a31 a35 a41 a46c48 N list2 n9_a o7_a o8_af0 N (0 : Int) ([] : List Int)))))))
      ((a31 (o7_a.getD 0 ((0 : Int), (([] : List (List Int)), ()))) all11_b o8_af0).bind fun r12 =>
      cond (decide (n9_a ≥ (0 : Int))) (cond (r12 != (13 : Int)) (some false)
      (cond (decide (n9_a < (0 : Int))) (cond (r12 != (0 : Int)) (some false)
      ((l10c a16 a29 a31 a35 a41 a46c48 N list2 n9_a o7_a o8_af0 N (0 : Int) ([] : List Int))))
      ((l10c a16 a29 a31 a35 a41 a46c48 N list2 n9_a o7_a o8_af0 N (0 : Int) ([] : List Int)))))
      (cond (decide (n9_a < (0 : Int))) (cond (r12 != (0 : Int)) (some false)
      ((l10c a16 a29 a31 a35 a41 a46c48 N list2 n9_a o7_a o8_af0 N (0 : Int) ([] : List Int))))
      ((l10c a16 a29 a31 a35 a41 a46c48 N list2 n9_a o7_a o8_af0 N (0 : Int) ([] : List Int))))))))
      (cond (decide (n9_a < (0 : Int))) (cond (g14_b != (14 : Int)) (some false)
      (cond (m13_b != (0 : Int)) (some false)
      ((a31 (o7_a.getD 0 ((0 : Int), (([] : List (List Int)), ()))) all11_b o8_af0).bind fun r13 =>
      cond (decide (n9_a ≥ (0 : Int))) (cond (r13 != (13 : Int)) (some false)
      (cond (decide (n9_a < (0 : Int))) (cond (r13 != (0 : Int)) (some false)
      ((l10c a16 a29 a31 a35 a41 a46c48 N list2 n9_a o7_a o8_af0 N (0 : Int) ([] : List Int))))
      ((l10c a16 a29 a31 a35 a41 a46c48 N list2 n9_a o7_a o8_af0 N (0 : Int) ([] : List Int)))))
      (cond (decide (n9_a < (0 : Int))) (cond (r13 != (0 : Int)) (some false)
      ((l10c a16 a29 a31 a35 a41 a46c48 N list2 n9_a o7_a o8_af0 N (0 : Int) ([] : List Int))))
      ((l10c a16 a29 a31 a35 a41 a46c48 N list2 n9_a o7_a o8_af0 N (0 : Int) ([] : List Int)))))))
      ((a31 (o7_a.getD 0 ((0 : Int), (([] : List (List Int)), ()))) all11_b o8_af0).bind fun r14 =>
      cond (decide (n9_a ≥ (0 : Int))) (cond (r14 != (13 : Int)) (some false)
      (cond (decide (n9_a < (0 : Int))) (cond (r14 != (0 : Int)) (some false)
      ((l10c a16 a29 a31 a35 a41 a46c48 N list2 n9_a o7_a o8_af0 N (0 : Int) ([] : List Int))))
      ((l10c a16 a29 a31 a35 a41 a46c48 N list2 n9_a o7_a o8_af0 N (0 : Int) ([] : List Int)))))
      (cond (decide (n9_a < (0 : Int))) (cond (r14 != (0 : Int)) (some false)
      ((l10c a16 a29 a31 a35 a41 a46c48 N list2 n9_a o7_a o8_af0 N (0 : Int) ([] : List Int))))
      ((l10c a16 a29 a31 a35 a41 a46c48 N list2 n9_a o7_a o8_af0 N (0 : Int) ([] : List Int))))))))
theorem wl10b (a16 : Option (Bool)) (a29 : (Int × List (List Int) × Unit) → Option (List Int × Int)) (a31 : (Int × List (List Int) × Unit) → (List Int) → Int → Option (Int)) (a35 : (Int × List (List Int) × Unit) → Int → Option (Int × Int)) (a41 : (Int × List (List Int) × Unit) → Option (Int × List (List Int) × Unit)) (a46c48 : Int → Int → (List (Int × List (List Int) × Unit)) → Int → Option (Bool × List (Int × List (List Int) × Unit) × Int)) (N : Nat) (list2 : Int) (n9_a : Int) (o7_a : List (Int × List (List Int) × Unit)) (o8_af0 : Int) (m : Nat) (all11_b : List Int) (m13_b : Int) (g14_b : Int) (is15_b : Bool) (t64_b : List Int) (t65_b : Int) (t66_b : Int) : R10_1 a16 a29 a31 a35 a41 a46c48 N (m + 1) (Sl10b list2 n9_a o7_a o8_af0 all11_b m13_b g14_b is15_b t64_b t65_b t66_b) = cond (decide (t66_b < t65_b)) (chk (decide (0 ≤ t66_b ∧ t66_b < (t64_b.length : Int))) (cond (is15_b) ((R10_1 a16 a29 a31 a35 a41 a46c48 N m (Sl10b list2 n9_a o7_a o8_af0 all11_b m13_b g14_b true t64_b t65_b (w64 (t66_b + (1 : Int))))))
      ((R10_1 a16 a29 a31 a35 a41 a46c48 N m (Sl10b list2 n9_a o7_a o8_af0 all11_b m13_b g14_b ((t64_b.getD t66_b.toNat (0 : Int)) == o8_af0) t64_b t65_b (w64 (t66_b + (1 : Int))))))))
      (cond (is15_b != (decide (n9_a ≥ (0 : Int)))) (some false)
      (cond (decide (n9_a ≥ (0 : Int))) (cond (g14_b != (0 : Int)) (some false)
      (cond (m13_b != n9_a) (some false)
      (cond (decide (n9_a < (0 : Int))) (cond (g14_b != (14 : Int)) (some false)
      (cond (m13_b != (0 : Int)) (some false)
      ((a31 (o7_a.getD 0 ((0 : Int), (([] : List (List Int)), ()))) all11_b o8_af0).bind fun r5 =>
      cond (decide (n9_a ≥ (0 : Int))) (cond (r5 != (13 : Int)) (some false)
      (cond (decide (n9_a < (0 : Int))) (cond (r5 != (0 : Int)) (some false)
      ((R10_2 a16 a29 a31 a35 a41 a46c48 N N (Sl10c list2 n9_a o7_a o8_af0 (0 : Int) ([] : List Int)))))
      ((R10_2 a16 a29 a31 a35 a41 a46c48 N N (Sl10c list2 n9_a o7_a o8_af0 (0 : Int) ([] : List Int))))))
      (cond (decide (n9_a < (0 : Int))) (cond (r5 != (0 : Int)) (some false)
      ((R10_2 a16 a29 a31 a35 a41 a46c48 N N (Sl10c list2 n9_a o7_a o8_af0 (0 : Int) ([] : List Int)))))
      ((R10_2 a16 a29 a31 a35 a41 a46c48 N N (Sl10c list2 n9_a o7_a o8_af0 (0 : Int) ([] : List Int))))))))
      ((a31 (o7_a.getD 0 ((0 : Int), (([] : List (List Int)), ()))) all11_b o8_af0).bind fun r12 =>
      cond (decide (n9_a ≥ (0 : Int))) (cond (r12 != (13 : Int)) (some false)
      (cond (decide (n9_a < (0 : Int))) (cond (r12 != (0 : Int)) (some false)
      ((R10_2 a16 a29 a31 a35 a41 a46c48 N N (Sl10c list2 n9_a o7_a o8_af0 (0 : Int) ([] : List Int)))))
      ((R10_2 a16 a29 a31 a35 a41 a46c48 N N (Sl10c list2 n9_a o7_a o8_af0 (0 : Int) ([] : List Int))))))
      (cond (decide (n9_a < (0 : Int))) (cond (r12 != (0 : Int)) (some false)
      ((R10_2 a16 a29 a31 a35 a41 a46c48 N N (Sl10c list2 n9_a o7_a o8_af0 (0 : Int) ([] : List Int)))))
      ((R10_2 a16 a29 a31 a35 a41 a46c48 N N (Sl10c list2 n9_a o7_a o8_af0 (0 : Int) ([] : List Int)))))))))
      (cond (decide (n9_a < (0 : Int))) (cond (g14_b != (14 : Int)) (some false)
      (cond (m13_b != (0 : Int)) (some false)
      ((a31 (o7_a.getD 0 ((0 : Int), (([] : List (List Int)), ()))) all11_b o8_af0).bind fun r13 =>
      cond (decide (n9_a ≥ (0 : Int))) (cond (r13 != (13 : Int)) (some false)
      (cond (decide (n9_a < (0 : Int))) (cond (r13 != (0 : Int)) (some false)
      ((R10_2 a16 a29 a31 a35 a41 a46c48 N N (Sl10c list2 n9_a o7_a o8_af0 (0 : Int) ([] : List Int)))))
      ((R10_2 a16 a29 a31 a35 a41 a46c48 N N (Sl10c list2 n9_a o7_a o8_af0 (0 : Int) ([] : List Int))))))
      (cond (decide (n9_a < (0 : Int))) (cond (r13 != (0 : Int)) (some false)
      ((R10_2 a16 a29 a31 a35 a41 a46c48 N N (Sl10c list2 n9_a o7_a o8_af0 (0 : Int) ([] : List Int)))))
      ((R10_2 a16 a29 a31 a35 a41 a46c48 N N (Sl10c list2 n9_a o7_a o8_af0 (0 : Int) ([] : List Int))))))))
      ((a31 (o7_a.getD 0 ((0 : Int), (([] : List (List Int)), ()))) all11_b o8_af0).bind fun r14 =>
      cond (decide (n9_a ≥ (0 : Int))) (cond (r14 != (13 : Int)) (some false)
      (cond (decide (n9_a < (0 : Int))) (cond (r14 != (0 : Int)) (some false)
      ((R10_2 a16 a29 a31 a35 a41 a46c48 N N (Sl10c list2 n9_a o7_a o8_af0 (0 : Int) ([] : List Int)))))
      ((R10_2 a16 a29 a31 a35 a41 a46c48 N N (Sl10c list2 n9_a o7_a o8_af0 (0 : Int) ([] : List Int))))))
      (cond (decide (n9_a < (0 : Int))) (cond (r14 != (0 : Int)) (some false)
      ((R10_2 a16 a29 a31 a35 a41 a46c48 N N (Sl10c list2 n9_a o7_a o8_af0 (0 : Int) ([] : List Int)))))
      ((R10_2 a16 a29 a31 a35 a41 a46c48 N N (Sl10c list2 n9_a o7_a o8_af0 (0 : Int) ([] : List Int))))))))) := by kernel_rfl
theorem ql10b (a16 : Option (Bool)) (a29 : (Int × List (List Int) × Unit) → Option (List Int × Int)) (a31 : (Int × List (List Int) × Unit) → (List Int) → Int → Option (Int)) (a35 : (Int × List (List Int) × Unit) → Int → Option (Int × Int)) (a41 : (Int × List (List Int) × Unit) → Option (Int × List (List Int) × Unit)) (a46c48 : Int → Int → (List (Int × List (List Int) × Unit)) → Int → Option (Bool × List (Int × List (List Int) × Unit) × Int)) (N : Nat) (list2 : Int) (n9_a : Int) (o7_a : List (Int × List (List Int) × Unit)) (o8_af0 : Int) : ∀ (m : Nat) (all11_b : List Int) (m13_b : Int) (g14_b : Int) (is15_b : Bool) (t64_b : List Int) (t65_b : Int) (t66_b : Int), R10_1 a16 a29 a31 a35 a41 a46c48 N m (Sl10b list2 n9_a o7_a o8_af0 all11_b m13_b g14_b is15_b t64_b t65_b t66_b) = l10b a16 a29 a31 a35 a41 a46c48 N list2 n9_a o7_a o8_af0 m all11_b m13_b g14_b is15_b t64_b t65_b t66_b
        | 0, _, _, _, _, _, _, _ => rfl
        | m + 1, all11_b, m13_b, g14_b, is15_b, t64_b, t65_b, t66_b => by rw [wl10b]; simp only [l10b, ql10c, ql10b a16 a29 a31 a35 a41 a46c48 N list2 n9_a o7_a o8_af0 m]
def l10a (a16 : Option (Bool)) (a29 : (Int × List (List Int) × Unit) → Option (List Int × Int)) (a31 : (Int × List (List Int) × Unit) → (List Int) → Int → Option (Int)) (a35 : (Int × List (List Int) × Unit) → Int → Option (Int × Int)) (a41 : (Int × List (List Int) × Unit) → Option (Int × List (List Int) × Unit)) (a46c48 : Int → Int → (List (Int × List (List Int) × Unit)) → Int → Option (Bool × List (Int × List (List Int) × Unit) × Int)) (N : Nat) (list2 : Int) : Nat → Int → Int → (List (Int × List (List Int) × Unit)) → Int → Option (Bool)
  | 0, _, _, _, _ => none
  | n + 1, n9_a, size10_a, o7_a, o8_af0 => cond (decide (size10_a < ((o7_a.getD 0 ((0 : Int), (([] : List (List Int)), ()))).1))) (cond (decide (n9_a < (0 : Int))) ((a46c48 ((((o7_a.getD 0 ((0 : Int), (([] : List (List Int)), ()))).2).1).length : Int) size10_a o7_a o8_af0).bind fun r2 =>
      cond (r2.1) ((l10a a16 a29 a31 a35 a41 a46c48 N list2 n size10_a (w64 (size10_a + (1 : Int))) r2.2.1 r2.2.2))
      ((l10a a16 a29 a31 a35 a41 a46c48 N list2 n n9_a (w64 (size10_a + (1 : Int))) r2.2.1 r2.2.2)))
      ((a29 (o7_a.getD 0 ((0 : Int), (([] : List (List Int)), ())))).bind fun r3 =>
      (a35 (o7_a.getD 0 ((0 : Int), (([] : List (List Int)), ()))) o8_af0).bind fun r4 =>
      cond (r3.2 != (0 : Int)) (some false)
      ((l10b a16 a29 a31 a35 a41 a46c48 N list2 n9_a o7_a o8_af0 N r3.1 r4.1 r4.2 false r3.1 (r3.1.length : Int) (0 : Int)))))
      ((a29 (o7_a.getD 0 ((0 : Int), (([] : List (List Int)), ())))).bind fun r15 =>
      (a35 (o7_a.getD 0 ((0 : Int), (([] : List (List Int)), ()))) o8_af0).bind fun r16 =>
      cond (r15.2 != (0 : Int)) (some false)
      ((l10b a16 a29 a31 a35 a41 a46c48 N list2 n9_a o7_a o8_af0 N r15.1 r16.1 r16.2 false r15.1 (r15.1.length : Int) (0 : Int))))
theorem wl10a (a16 : Option (Bool)) (a29 : (Int × List (List Int) × Unit) → Option (List Int × Int)) (a31 : (Int × List (List Int) × Unit) → (List Int) → Int → Option (Int)) (a35 : (Int × List (List Int) × Unit) → Int → Option (Int × Int)) (a41 : (Int × List (List Int) × Unit) → Option (Int × List (List Int) × Unit)) (a46c48 : Int → Int → (List (Int × List (List Int) × Unit)) → Int → Option (Bool × List (Int × List (List Int) × Unit) × Int)) (N : Nat) (list2 : Int) (m : Nat) (n9_a : Int) (size10_a : Int) (o7_a : List (Int × List (List Int) × Unit)) (o8_af0 : Int) : R10_0 a16 a29 a31 a35 a41 a46c48 N (m + 1) (Sl10a list2 n9_a size10_a o7_a o8_af0) = cond (decide (size10_a < ((o7_a.getD 0 ((0 : Int), (([] : List (List Int)), ()))).1))) (cond (decide (n9_a < (0 : Int))) ((a46c48 ((((o7_a.getD 0 ((0 : Int), (([] : List (List Int)), ()))).2).1).length : Int) size10_a o7_a o8_af0).bind fun r2 =>
      cond (r2.1) ((R10_0 a16 a29 a31 a35 a41 a46c48 N m (Sl10a list2 size10_a (w64 (size10_a + (1 : Int))) r2.2.1 r2.2.2)))
      ((R10_0 a16 a29 a31 a35 a41 a46c48 N m (Sl10a list2 n9_a (w64 (size10_a + (1 : Int))) r2.2.1 r2.2.2))))
      ((a29 (o7_a.getD 0 ((0 : Int), (([] : List (List Int)), ())))).bind fun r3 =>
      (a35 (o7_a.getD 0 ((0 : Int), (([] : List (List Int)), ()))) o8_af0).bind fun r4 =>
      cond (r3.2 != (0 : Int)) (some false)
      ((R10_1 a16 a29 a31 a35 a41 a46c48 N N (Sl10b list2 n9_a o7_a o8_af0 r3.1 r4.1 r4.2 false r3.1 (r3.1.length : Int) (0 : Int))))))
      ((a29 (o7_a.getD 0 ((0 : Int), (([] : List (List Int)), ())))).bind fun r15 =>
      (a35 (o7_a.getD 0 ((0 : Int), (([] : List (List Int)), ()))) o8_af0).bind fun r16 =>
      cond (r15.2 != (0 : Int)) (some false)
      ((R10_1 a16 a29 a31 a35 a41 a46c48 N N (Sl10b list2 n9_a o7_a o8_af0 r15.1 r16.1 r16.2 false r15.1 (r15.1.length : Int) (0 : Int))))) := by kernel_rfl
theorem ql10a (a16 : Option (Bool)) (a29 : (Int × List (List Int) × Unit) → Option (List Int × Int)) (a31 : (Int × List (List Int) × Unit) → (List Int) → Int → Option (Int)) (a35 : (Int × List (List Int) × Unit) → Int → Option (Int × Int)) (a41 : (Int × List (List Int) × Unit) → Option (Int × List (List Int) × Unit)) (a46c48 : Int → Int → (List (Int × List (List Int) × Unit)) → Int → Option (Bool × List (Int × List (List Int) × Unit) × Int)) (N : Nat) (list2 : Int) : ∀ (m : Nat) (n9_a : Int) (size10_a : Int) (o7_a : List (Int × List (List Int) × Unit)) (o8_af0 : Int), R10_0 a16 a29 a31 a35 a41 a46c48 N m (Sl10a list2 n9_a size10_a o7_a o8_af0) = l10a a16 a29 a31 a35 a41 a46c48 N list2 m n9_a size10_a o7_a o8_af0
        | 0, _, _, _, _ => rfl
        | m + 1, n9_a, size10_a, o7_a, o8_af0 => by rw [wl10a]; simp only [l10a, ql10b, ql10a a16 a29 a31 a35 a41 a46c48 N list2 m]
def m10 (a16 : Option (Bool)) (a29 : (Int × List (List Int) × Unit) → Option (List Int × Int)) (a31 : (Int × List (List Int) × Unit) → (List Int) → Int → Option (Int)) (a35 : (Int × List (List Int) × Unit) → Int → Option (Int × Int)) (a41 : (Int × List (List Int) × Unit) → Option (Int × List (List Int) × Unit)) (a46c48 : Int → Int → (List (Int × List (List Int) × Unit)) → Int → Option (Bool × List (Int × List (List Int) × Unit) × Int)) (N : Nat) (e0 : Int × List (List Int) × Unit) (colour1 : Int) (list2 : Int) : Option (Bool) :=
      (a41 e0).bind fun r1 =>
      chk (decide (r1.1 ≠ (0 : Int))) ((l10a a16 a29 a31 a35 a41 a46c48 N list2 N (-1 : Int) (0 : Int) ([r1] : List (Int × List (List Int) × Unit)) (Int.tmod (w64 (colour1)) r1.1)))
theorem wm10 (a16 : Option (Bool)) (a29 : (Int × List (List Int) × Unit) → Option (List Int × Int)) (a31 : (Int × List (List Int) × Unit) → (List Int) → Int → Option (Int)) (a35 : (Int × List (List Int) × Unit) → Int → Option (Int × Int)) (a41 : (Int × List (List Int) × Unit) → Option (Int × List (List Int) × Unit)) (a46c48 : Int → Int → (List (Int × List (List Int) × Unit)) → Int → Option (Bool × List (Int × List (List Int) × Unit) × Int)) (N : Nat) (e0 : Int × List (List Int) × Unit) (colour1 : Int) (list2 : Int) : callF (E10 a16 a29 a31 a35 a41 a46c48) lv10 N en10 c10 (resOf Try.f10) 189 [.dv (.pair (.int .u8) (.pair (.sl (.arr 5 (.int .u8))) (.unit))) e0, .dv (.int .u8) colour1, .dv (.int .u8) list2] [] dec10 = (a41 e0).bind fun r1 =>
      chk (decide (r1.1 ≠ (0 : Int))) ((R10_0 a16 a29 a31 a35 a41 a46c48 N N (Sl10a list2 (-1 : Int) (0 : Int) ([r1] : List (Int × List (List Int) × Unit)) (Int.tmod (w64 (colour1)) r1.1)))) := by kernel_rfl
theorem k10 (a16 : Option (Bool)) (a29 : (Int × List (List Int) × Unit) → Option (List Int × Int)) (a31 : (Int × List (List Int) × Unit) → (List Int) → Int → Option (Int)) (a35 : (Int × List (List Int) × Unit) → Int → Option (Int × Int)) (a41 : (Int × List (List Int) × Unit) → Option (Int × List (List Int) × Unit)) (a46c48 : Int → Int → (List (Int × List (List Int) × Unit)) → Int → Option (Bool × List (Int × List (List Int) × Unit) × Int)) (N : Nat) (e0 : Int × List (List Int) × Unit) (colour1 : Int) (list2 : Int) : callF (E10 a16 a29 a31 a35 a41 a46c48) lv10 N en10 c10 (resOf Try.f10) 189 [.dv (.pair (.int .u8) (.pair (.sl (.arr 5 (.int .u8))) (.unit))) e0, .dv (.int .u8) colour1, .dv (.int .u8) list2] [] dec10 = m10 a16 a29 a31 a35 a41 a46c48 N e0 colour1 list2 := by rw [wm10]; simp only [m10, ql10a]
theorem ok10 (a16 : Option (Bool)) (a29 : (Int × List (List Int) × Unit) → Option (List Int × Int)) (a31 : (Int × List (List Int) × Unit) → (List Int) → Int → Option (Int)) (a35 : (Int × List (List Int) × Unit) → Int → Option (Int × Int)) (a41 : (Int × List (List Int) × Unit) → Option (Int × List (List Int) × Unit)) (a46c48 : Int → Int → (List (Int × List (List Int) × Unit)) → Int → Option (Bool × List (Int × List (List Int) × Unit) × Int)) (h16 : FnOk Try.prog 16 (F16 a16)) (h29 : FnOk Try.prog 29 (F29 a29)) (h31 : FnOk Try.prog 31 (F31 a31)) (h35 : FnOk Try.prog 35 (F35 a35)) (h41 : FnOk Try.prog 41 (F41 a41)) (h46c48 : FnOk Try.prog 46 (F46c48 a46c48)) (a : (Int × List (List Int) × Unit) → Int → Int → Option (Bool)) (h : ∀ e0 colour1 list2 r, a e0 colour1 list2 = some r → (∃ N, m10 a16 a29 a31 a35 a41 a46c48 N e0 colour1 list2 = some r)) : FnOk Try.prog 10 (F10 a) := by
  intro args Of x hx
  simp only [F10] at hx
  split at hx
  · rename_i e0 colour1 list2
    obtain ⟨N, hN⟩ := h _ _ _ _ hx
    refine lifted (L := [(16, F16 a16), (29, F29 a29), (31, F31 a31), (35, F35 a35), (41, F41 a41), (46, F46c48 a46c48)]) (rc := nrc) (fz := nfz) (fn := Try.f10) (by kernel_rfl) (by kernel_rfl) (by kernel_rfl) (by kernel_rfl) rfl ?_ ((k10 a16 a29 a31 a35 a41 a46c48 N _ _ _).trans hN) ?_
    · intro p hp; simp only [List.mem_cons, List.not_mem_nil, or_false] at hp; rcases hp with rfl | rfl | rfl | rfl | rfl | rfl
      · exact h16
      · exact h29
      · exact h31
      · exact h35
      · exact h41
      · exact h46c48
    · intro l o hd
      simp only [dec10] at hd
      split at hd
      · obtain rfl := Option.some.inj hd; exact ⟨rfl, rfl⟩
      · cases hd
  · cases hx
end Go.Proofs.Ytaioadjcdjmkdaa
