/-
 The functions that the law reaches, told as plain functions.
-/
import Derived.Test.YtplbdongegfdnaaWM0
namespace Go.Proofs.Ytplbdongegfdnaa
open Go.RowKit
set_option linter.unusedVariables false
def E47 (a25 : (List (List Int)) → Option (List Int × List Int)) : Env := mkE TI TY [(25, F25 a25)] nrc (fun i => ([32, 109] : List Nat).contains i)
noncomputable def c47 : Code := bodyOf Try.f47
def nm47_0 : Norm := ⟨[0, 1, 2, 7, 8, 9, 33, 34, 35], [1271500, 1271501, 32], [], []⟩
def nm47_1 : Norm := ⟨[2, 7, 9, 57, 58], [1271500, 32], [(.slot 8, 1008, .int .i64)], []⟩
def nm47_2 : Norm := ⟨[2, 7, 8, 9, 12, 57, 58, 62, 63], [1271500, 1008, 32], [], []⟩
def nm47_3 : Norm := ⟨[2, 7, 8, 9, 15, 16, 17, 111, 112], [1271500, 1008, 32, 109], [], []⟩
def nm47_4 : Norm := ⟨[2, 7, 8, 15, 16, 17, 123, 124, 125], [1271500, 1008, 109], [], [(123, .sl (.sl (.int .i64)))]⟩
def nm47_5 : Norm := ⟨[2, 7, 8, 15, 16, 17, 19, 123, 124, 125, 150, 151, 152], [1271500, 1008, 109], [], [(123, .sl (.sl (.int .i64)))]⟩
def nm47_6 : Norm := ⟨[2, 15, 17, 170, 171, 172], [109, 1008], [], []⟩
def lv47 : Nat → Option Norm := norms [(4, nm47_0), (10, nm47_1), (13, nm47_2), (25, nm47_3), (30, nm47_4), (35, nm47_5), (41, nm47_6)]
def en47 : End := ⟨[], ⟨[], [], [(.slot 190, 1500, .tup (.sl (.int .i64)))], []⟩⟩
def dec47 (l : List TV) (o : List (Nat × TO)) : Option (List (List Int)) := match l, o with | [.row 1500], [(1500, .mat (.int .i64) x0 none)] => some (x0) | _, _ => none
def Sl47c (work0 : List (List Int)) (seats1 : Int) (length2 : Int) (t58_b : Int) (machines8_b : List Int) (o32_b : List (List Int)) (left12_c : Int) (t63_c : Int) (o1271500_c : List Int) (o32_c : List (List Int)) : TS := ⟨slots 190 [(2, .dv (.int .i64) length2), (7, .row 1271500), (8, .row 1008), (9, .row 32), (12, .dv (.int .i64) left12_c), (57, .dv (.int .i64) (imax (0 : Int) (w64 ((work0.length : Int) - seats1)))), (58, .dv (.int .i64) t58_b), (62, .dv (.int .i64) (o32_b.length : Int)), (63, .dv (.int .i64) t63_c)], [(1271500, .row (.int .i64) o1271500_c), (1008, .row (.int .i64) machines8_b), (32, .mat (.int .i64) o32_c none)]⟩
def Sl47f (length2 : Int) (machines8_b : List Int) (o1271500_b : List Int) (o32_b : List (List Int)) (t125_e : Int) (t152_f : Int) (o109_f : List (List Int)) : TS := ⟨slots 190 [(2, .dv (.int .i64) length2), (7, .row 1271500), (8, .row 1008), (15, .dv (.int .i64) (o32_b.length : Int)), (16, .dv (.int .i64) (machines8_b.length : Int)), (17, .row 109), (19, .dv (.int .i64) t125_e), (123, .dv (.sl (.sl (.int .i64))) o32_b), (124, .dv (.int .i64) (o32_b.length : Int)), (125, .dv (.int .i64) t125_e), (150, .dv (.sl (.int .i64)) (o32_b.getD t125_e.toNat ([] : List Int))), (151, .dv (.int .i64) ((o32_b.getD t125_e.toNat ([] : List Int)).length : Int)), (152, .dv (.int .i64) t152_f)], [(1271500, .row (.int .i64) o1271500_b), (1008, .row (.int .i64) machines8_b), (109, .mat (.int .i64) o109_f none)]⟩
def Sl47g (length2 : Int) (machines8_b : List Int) (o32_b : List (List Int)) (t172_g : Int) (o109_g : List (List Int)) : TS := ⟨slots 190 [(2, .dv (.int .i64) length2), (15, .dv (.int .i64) (o32_b.length : Int)), (17, .row 109), (170, .row 1008), (171, .dv (.int .i64) (machines8_b.length : Int)), (172, .dv (.int .i64) t172_g)], [(109, .mat (.int .i64) o109_g none), (1008, .row (.int .i64) machines8_b)]⟩
def Sl47e (length2 : Int) (machines8_b : List Int) (o1271500_b : List Int) (o32_b : List (List Int)) (t125_e : Int) (o109_e : List (List Int)) : TS := ⟨slots 190 [(2, .dv (.int .i64) length2), (7, .row 1271500), (8, .row 1008), (15, .dv (.int .i64) (o32_b.length : Int)), (16, .dv (.int .i64) (machines8_b.length : Int)), (17, .row 109), (123, .dv (.sl (.sl (.int .i64))) o32_b), (124, .dv (.int .i64) (o32_b.length : Int)), (125, .dv (.int .i64) t125_e)], [(1271500, .row (.int .i64) o1271500_b), (1008, .row (.int .i64) machines8_b), (109, .mat (.int .i64) o109_e none)]⟩
def Sl47d (length2 : Int) (machines8_b : List Int) (o1271500_b : List Int) (o32_b : List (List Int)) (t112_d : Int) (o109_d : List (List Int)) : TS := ⟨slots 190 [(2, .dv (.int .i64) length2), (7, .row 1271500), (8, .row 1008), (9, .row 32), (15, .dv (.int .i64) (o32_b.length : Int)), (16, .dv (.int .i64) (machines8_b.length : Int)), (17, .row 109), (111, .dv (.int .i64) ((List.replicate ((w64 ((o32_b.length : Int) + (machines8_b.length : Int))).toNat) ([] : List Int)).length : Int)), (112, .dv (.int .i64) t112_d)], [(1271500, .row (.int .i64) o1271500_b), (1008, .row (.int .i64) machines8_b), (32, .mat (.int .i64) o32_b none), (109, .mat (.int .i64) o109_d none)]⟩
def Sl47b (work0 : List (List Int)) (seats1 : Int) (length2 : Int) (t58_b : Int) (machines8_b : List Int) (o1271500_b : List Int) (o32_b : List (List Int)) : TS := ⟨slots 190 [(2, .dv (.int .i64) length2), (7, .row 1271500), (8, .row 1008), (9, .row 32), (57, .dv (.int .i64) (imax (0 : Int) (w64 ((work0.length : Int) - seats1)))), (58, .dv (.int .i64) t58_b)], [(1008, .row (.int .i64) machines8_b), (1271500, .row (.int .i64) o1271500_b), (32, .mat (.int .i64) o32_b none)]⟩
def Sl47a (work0 : List (List Int)) (seats1 : Int) (length2 : Int) (r1 : List Int × List Int) (t35_a : Int) (o32_a : List (List Int)) : TS := ⟨slots 190 [(0, .dv (.sl (.sl (.int .i64))) work0), (1, .dv (.int .i64) seats1), (2, .dv (.int .i64) length2), (7, .row 1271500), (8, .row 1271501), (9, .row 32), (33, .dv (.sl (.sl (.int .i64))) work0), (34, .dv (.int .i64) (work0.length : Int)), (35, .dv (.int .i64) t35_a)], [(1271500, .row (.int .i64) r1.1), (1271501, .row (.int .i64) r1.2), (32, .mat (.int .i64) o32_a none)]⟩
noncomputable def K47_0 (a25 : (List (List Int)) → Option (List Int × List Int)) (N : Nat) : Kont (List (List Int)) := kont (E47 a25) lv47 N c47 [1, 1, 1, 0, 1, 0] (fin TI en47 (resOf Try.f47) dec47)
noncomputable def R47_0 (a25 : (List (List Int)) → Option (List Int × List Int)) (N : Nat) (m : Nat) : TS → Option (List (List Int)) := loopK (den (E47 a25) lv47 N (sub c47 [1, 1, 1, 0, 1, 0, 0])) (TS.norm nm47_0) (K47_0 a25 N) m
noncomputable def K47_1 (a25 : (List (List Int)) → Option (List Int × List Int)) (N : Nat) : Kont (List (List Int)) := kont (E47 a25) lv47 N c47 [1, 1, 1, 1, 0, 1, 0] (fin TI en47 (resOf Try.f47) dec47)
noncomputable def R47_1 (a25 : (List (List Int)) → Option (List Int × List Int)) (N : Nat) (m : Nat) : TS → Option (List (List Int)) := loopK (den (E47 a25) lv47 N (sub c47 [1, 1, 1, 1, 0, 1, 0, 0])) (TS.norm nm47_1) (K47_1 a25 N) m
noncomputable def K47_2 (a25 : (List (List Int)) → Option (List Int × List Int)) (N : Nat) (T47_1 : TS → Option (List (List Int))) : Kont (List (List Int)) := kont (E47 a25) lv47 N (sub c47 [1, 1, 1, 1, 0, 1, 0, 0]) [1, 1, 0, 0, 1, 0, 1, 0] (kloop (TS.norm nm47_1) (K47_1 a25 N) T47_1)
noncomputable def R47_2 (a25 : (List (List Int)) → Option (List Int × List Int)) (N : Nat) (T47_1 : TS → Option (List (List Int))) (m : Nat) : TS → Option (List (List Int)) := loopK (den (E47 a25) lv47 N (sub c47 [1, 1, 1, 1, 0, 1, 0, 0, 1, 1, 0, 0, 1, 0, 1, 0, 0])) (TS.norm nm47_2) (K47_2 a25 N T47_1) m
noncomputable def K47_3 (a25 : (List (List Int)) → Option (List Int × List Int)) (N : Nat) : Kont (List (List Int)) := kont (E47 a25) lv47 N c47 [1, 1, 1, 1, 1, 1, 1, 0, 1, 0] (fin TI en47 (resOf Try.f47) dec47)
noncomputable def R47_3 (a25 : (List (List Int)) → Option (List Int × List Int)) (N : Nat) (m : Nat) : TS → Option (List (List Int)) := loopK (den (E47 a25) lv47 N (sub c47 [1, 1, 1, 1, 1, 1, 1, 0, 1, 0, 0])) (TS.norm nm47_3) (K47_3 a25 N) m
noncomputable def K47_4 (a25 : (List (List Int)) → Option (List Int × List Int)) (N : Nat) : Kont (List (List Int)) := kont (E47 a25) lv47 N c47 [1, 1, 1, 1, 1, 1, 1, 1, 0, 1, 0] (fin TI en47 (resOf Try.f47) dec47)
noncomputable def R47_4 (a25 : (List (List Int)) → Option (List Int × List Int)) (N : Nat) (m : Nat) : TS → Option (List (List Int)) := loopK (den (E47 a25) lv47 N (sub c47 [1, 1, 1, 1, 1, 1, 1, 1, 0, 1, 0, 0])) (TS.norm nm47_4) (K47_4 a25 N) m
noncomputable def K47_5 (a25 : (List (List Int)) → Option (List Int × List Int)) (N : Nat) (T47_4 : TS → Option (List (List Int))) : Kont (List (List Int)) := kont (E47 a25) lv47 N (sub c47 [1, 1, 1, 1, 1, 1, 1, 1, 0, 1, 0, 0]) [1, 1, 0, 0, 1, 1, 1, 1, 0] (kloop (TS.norm nm47_4) (K47_4 a25 N) T47_4)
noncomputable def R47_5 (a25 : (List (List Int)) → Option (List Int × List Int)) (N : Nat) (T47_4 : TS → Option (List (List Int))) (m : Nat) : TS → Option (List (List Int)) := loopK (den (E47 a25) lv47 N (sub c47 [1, 1, 1, 1, 1, 1, 1, 1, 0, 1, 0, 0, 1, 1, 0, 0, 1, 1, 1, 1, 0, 0])) (TS.norm nm47_5) (K47_5 a25 N T47_4) m
noncomputable def K47_6 (a25 : (List (List Int)) → Option (List Int × List Int)) (N : Nat) : Kont (List (List Int)) := kont (E47 a25) lv47 N c47 [1, 1, 1, 1, 1, 1, 1, 1, 1, 0, 1, 0] (fin TI en47 (resOf Try.f47) dec47)
noncomputable def R47_6 (a25 : (List (List Int)) → Option (List Int × List Int)) (N : Nat) (m : Nat) : TS → Option (List (List Int)) := loopK (den (E47 a25) lv47 N (sub c47 [1, 1, 1, 1, 1, 1, 1, 1, 1, 0, 1, 0, 0])) (TS.norm nm47_6) (K47_6 a25 N) m
def l47c (a25 : (List (List Int)) → Option (List Int × List Int)) (N : Nat) (work0 : List (List Int)) (seats1 : Int) (length2 : Int) (t58_b : Int) (machines8_b : List Int) (o32_b : List (List Int)) (rec_l47b : Int → (List Int) → (List Int) → (List (List Int)) → Option (List (List Int))) : Nat → Int → Int → (List Int) → (List (List Int)) → Option (List (List Int))
 | 0, _, _, _, _ => none
 | n + 1, left12_c, t63_c, o1271500_c, o32_c => cond (decide (t63_c < (o32_b.length : Int))) (chk (decide (0 ≤ t63_c ∧ t63_c < (o1271500_c.length : Int))) (chk (decide (0 ≤ t63_c ∧ t63_c < (o32_c.length : Int))) (chk (small ((o32_c.getD t63_c.toNat ([] : List Int)).length + 1) 8) (chk (decide (0 ≤ t63_c ∧ t63_c < (o32_c.length : Int))) (chk (decide (t63_c.toNat = t63_c.toNat)) (chk (decide (0 ≤ t63_c ∧ t63_c < (o1271500_c.length : Int))) (chk (decide (0 ≤ t63_c ∧ t63_c < (o1271500_c.length : Int))) ((l47c a25 N work0 seats1 length2 t58_b machines8_b o32_b rec_l47b n (w64 (left12_c - (imin left12_c (w64 (length2 - (o1271500_c.getD t63_c.toNat (0 : Int))))))) (w64 (t63_c + (1 : Int))) (o1271500_c.set t63_c.toNat (w64 ((o1271500_c.getD t63_c.toNat (0 : Int)) + (imin left12_c (w64 (length2 - (o1271500_c.getD t63_c.toNat (0 : Int)))))))) (o32_c.set t63_c.toNat ((o32_c.getD t63_c.toNat ([] : List Int)) ++ ([imin left12_c (w64 (length2 - (o1271500_c.getD t63_c.toNat (0 : Int))))] : List Int))))))))))))
   (chk (small (machines8_b.length + 1) 8) ((rec_l47b (w64 (t58_b + (1 : Int))) (machines8_b ++ ([w64 (length2 - left12_c)] : List Int)) o1271500_c o32_c)))
theorem wl47c (a25 : (List (List Int)) → Option (List Int × List Int)) (N : Nat) (work0 : List (List Int)) (seats1 : Int) (length2 : Int) (t58_b : Int) (machines8_b : List Int) (o32_b : List (List Int)) (T47_1 : TS → Option (List (List Int))) (m : Nat) (left12_c : Int) (t63_c : Int) (o1271500_c : List Int) (o32_c : List (List Int)) : R47_2 a25 N T47_1 (m + 1) (Sl47c work0 seats1 length2 t58_b machines8_b o32_b left12_c t63_c o1271500_c o32_c) = cond (decide (t63_c < (o32_b.length : Int))) (chk (decide (0 ≤ t63_c ∧ t63_c < (o1271500_c.length : Int))) (chk (decide (0 ≤ t63_c ∧ t63_c < (o32_c.length : Int))) (chk (small ((o32_c.getD t63_c.toNat ([] : List Int)).length + 1) 8) (chk (decide (0 ≤ t63_c ∧ t63_c < (o32_c.length : Int))) (chk (decide (t63_c.toNat = t63_c.toNat)) (chk (decide (0 ≤ t63_c ∧ t63_c < (o1271500_c.length : Int))) (chk (decide (0 ≤ t63_c ∧ t63_c < (o1271500_c.length : Int))) ((R47_2 a25 N T47_1 m (Sl47c work0 seats1 length2 t58_b machines8_b o32_b (w64 (left12_c - (imin left12_c (w64 (length2 - (o1271500_c.getD t63_c.toNat (0 : Int))))))) (w64 (t63_c + (1 : Int))) (o1271500_c.set t63_c.toNat (w64 ((o1271500_c.getD t63_c.toNat (0 : Int)) + (imin left12_c (w64 (length2 - (o1271500_c.getD t63_c.toNat (0 : Int)))))))) (o32_c.set t63_c.toNat ((o32_c.getD t63_c.toNat ([] : List Int)) ++ ([imin left12_c (w64 (length2 - (o1271500_c.getD t63_c.toNat (0 : Int))))] : List Int)))))))))))))
   (chk (small (machines8_b.length + 1) 8) ((T47_1 (Sl47b work0 seats1 length2 (w64 (t58_b + (1 : Int))) (machines8_b ++ ([w64 (length2 - left12_c)] : List Int)) o1271500_c o32_c)))) := by kernel_rfl
theorem ql47c (a25 : (List (List Int)) → Option (List Int × List Int)) (N : Nat) (work0 : List (List Int)) (seats1 : Int) (length2 : Int) (t58_b : Int) (machines8_b : List Int) (o32_b : List (List Int)) (T47_1 : TS → Option (List (List Int))) : ∀ (m : Nat) (left12_c : Int) (t63_c : Int) (o1271500_c : List Int) (o32_c : List (List Int)), R47_2 a25 N T47_1 m (Sl47c work0 seats1 length2 t58_b machines8_b o32_b left12_c t63_c o1271500_c o32_c) = l47c a25 N work0 seats1 length2 t58_b machines8_b o32_b (fun y0 y1 y2 y3 => T47_1 (Sl47b work0 seats1 length2 y0 y1 y2 y3)) m left12_c t63_c o1271500_c o32_c
        | 0, _, _, _, _ => rfl
        | m + 1, left12_c, t63_c, o1271500_c, o32_c => by rw [wl47c]; simp only [l47c, ql47c a25 N work0 seats1 length2 t58_b machines8_b o32_b T47_1 m]
def l47f (a25 : (List (List Int)) → Option (List Int × List Int)) (N : Nat) (length2 : Int) (machines8_b : List Int) (o1271500_b : List Int) (o32_b : List (List Int)) (t125_e : Int) (rec_l47e : Int → (List (List Int)) → Option (List (List Int))) : Nat → Int → (List (List Int)) → Option (List (List Int))
 | 0, _, _ => none
 | n + 1, t152_f, o109_f => cond (decide (t152_f < ((o32_b.getD t125_e.toNat ([] : List Int)).length : Int))) (chk (decide (0 ≤ t152_f ∧ t152_f < ((o32_b.getD t125_e.toNat ([] : List Int)).length : Int))) (chk (decide (0 ≤ w64 ((o32_b.length : Int) + t152_f) ∧ w64 ((o32_b.length : Int) + t152_f) < (o109_f.length : Int))) (chk (decide (0 ≤ w64 ((machines8_b.length : Int) + t125_e) ∧ w64 ((machines8_b.length : Int) + t125_e) < ((o109_f.getD ((w64 ((o32_b.length : Int) + t152_f)).toNat) ([] : List Int)).length : Int))) ((l47f a25 N length2 machines8_b o1271500_b o32_b t125_e rec_l47e n (w64 (t152_f + (1 : Int))) (o109_f.set ((w64 ((o32_b.length : Int) + t152_f)).toNat) ((o109_f.getD ((w64 ((o32_b.length : Int) + t152_f)).toNat) ([] : List Int)).set ((w64 ((machines8_b.length : Int) + t125_e)).toNat) ((o32_b.getD t125_e.toNat ([] : List Int)).getD t152_f.toNat (0 : Int)))))))))
   ((rec_l47e (w64 (t125_e + (1 : Int))) o109_f))
theorem wl47f (a25 : (List (List Int)) → Option (List Int × List Int)) (N : Nat) (length2 : Int) (machines8_b : List Int) (o1271500_b : List Int) (o32_b : List (List Int)) (t125_e : Int) (T47_4 : TS → Option (List (List Int))) (m : Nat) (t152_f : Int) (o109_f : List (List Int)) : R47_5 a25 N T47_4 (m + 1) (Sl47f length2 machines8_b o1271500_b o32_b t125_e t152_f o109_f) = cond (decide (t152_f < ((o32_b.getD t125_e.toNat ([] : List Int)).length : Int))) (chk (decide (0 ≤ t152_f ∧ t152_f < ((o32_b.getD t125_e.toNat ([] : List Int)).length : Int))) (chk (decide (0 ≤ w64 ((o32_b.length : Int) + t152_f) ∧ w64 ((o32_b.length : Int) + t152_f) < (o109_f.length : Int))) (chk (decide (0 ≤ w64 ((machines8_b.length : Int) + t125_e) ∧ w64 ((machines8_b.length : Int) + t125_e) < ((o109_f.getD ((w64 ((o32_b.length : Int) + t152_f)).toNat) ([] : List Int)).length : Int))) ((R47_5 a25 N T47_4 m (Sl47f length2 machines8_b o1271500_b o32_b t125_e (w64 (t152_f + (1 : Int))) (o109_f.set ((w64 ((o32_b.length : Int) + t152_f)).toNat) ((o109_f.getD ((w64 ((o32_b.length : Int) + t152_f)).toNat) ([] : List Int)).set ((w64 ((machines8_b.length : Int) + t125_e)).toNat) ((o32_b.getD t125_e.toNat ([] : List Int)).getD t152_f.toNat (0 : Int))))))))))
   ((T47_4 (Sl47e length2 machines8_b o1271500_b o32_b (w64 (t125_e + (1 : Int))) o109_f))) := by kernel_rfl
theorem ql47f (a25 : (List (List Int)) → Option (List Int × List Int)) (N : Nat) (length2 : Int) (machines8_b : List Int) (o1271500_b : List Int) (o32_b : List (List Int)) (t125_e : Int) (T47_4 : TS → Option (List (List Int))) : ∀ (m : Nat) (t152_f : Int) (o109_f : List (List Int)), R47_5 a25 N T47_4 m (Sl47f length2 machines8_b o1271500_b o32_b t125_e t152_f o109_f) = l47f a25 N length2 machines8_b o1271500_b o32_b t125_e (fun y0 y1 => T47_4 (Sl47e length2 machines8_b o1271500_b o32_b y0 y1)) m t152_f o109_f
        | 0, _, _ => rfl
        | m + 1, t152_f, o109_f => by rw [wl47f]; simp only [l47f, ql47f a25 N length2 machines8_b o1271500_b o32_b t125_e T47_4 m]
def l47g (a25 : (List (List Int)) → Option (List Int × List Int)) (N : Nat) (length2 : Int) (machines8_b : List Int) (o32_b : List (List Int)) : Nat → Int → (List (List Int)) → Option (List (List Int))
 | 0, _, _ => none
 | n + 1, t172_g, o109_g => cond (decide (t172_g < (machines8_b.length : Int))) (chk (decide (0 ≤ t172_g ∧ t172_g < (machines8_b.length : Int))) (chk (decide (0 ≤ w64 ((o32_b.length : Int) + t172_g) ∧ w64 ((o32_b.length : Int) + t172_g) < (o109_g.length : Int))) (chk (decide (0 ≤ t172_g ∧ t172_g < ((o109_g.getD ((w64 ((o32_b.length : Int) + t172_g)).toNat) ([] : List Int)).length : Int))) ((l47g a25 N length2 machines8_b o32_b n (w64 (t172_g + (1 : Int))) (o109_g.set ((w64 ((o32_b.length : Int) + t172_g)).toNat) ((o109_g.getD ((w64 ((o32_b.length : Int) + t172_g)).toNat) ([] : List Int)).set t172_g.toNat (w64 (length2 - (machines8_b.getD t172_g.toNat (0 : Int)))))))))))
   (some o109_g)
theorem wl47g (a25 : (List (List Int)) → Option (List Int × List Int)) (N : Nat) (length2 : Int) (machines8_b : List Int) (o32_b : List (List Int)) (m : Nat) (t172_g : Int) (o109_g : List (List Int)) : R47_6 a25 N (m + 1) (Sl47g length2 machines8_b o32_b t172_g o109_g) = cond (decide (t172_g < (machines8_b.length : Int))) (chk (decide (0 ≤ t172_g ∧ t172_g < (machines8_b.length : Int))) (chk (decide (0 ≤ w64 ((o32_b.length : Int) + t172_g) ∧ w64 ((o32_b.length : Int) + t172_g) < (o109_g.length : Int))) (chk (decide (0 ≤ t172_g ∧ t172_g < ((o109_g.getD ((w64 ((o32_b.length : Int) + t172_g)).toNat) ([] : List Int)).length : Int))) ((R47_6 a25 N m (Sl47g length2 machines8_b o32_b (w64 (t172_g + (1 : Int))) (o109_g.set ((w64 ((o32_b.length : Int) + t172_g)).toNat) ((o109_g.getD ((w64 ((o32_b.length : Int) + t172_g)).toNat) ([] : List Int)).set t172_g.toNat (w64 (length2 - (machines8_b.getD t172_g.toNat (0 : Int))))))))))))
   (some o109_g) := by kernel_rfl
theorem ql47g (a25 : (List (List Int)) → Option (List Int × List Int)) (N : Nat) (length2 : Int) (machines8_b : List Int) (o32_b : List (List Int)) : ∀ (m : Nat) (t172_g : Int) (o109_g : List (List Int)), R47_6 a25 N m (Sl47g length2 machines8_b o32_b t172_g o109_g) = l47g a25 N length2 machines8_b o32_b m t172_g o109_g
        | 0, _, _ => rfl
        | m + 1, t172_g, o109_g => by rw [wl47g]; simp only [l47g, ql47g a25 N length2 machines8_b o32_b m]
def l47e (a25 : (List (List Int)) → Option (List Int × List Int)) (N : Nat) (length2 : Int) (machines8_b : List Int) (o1271500_b : List Int) (o32_b : List (List Int)) : Nat → Int → (List (List Int)) → Option (List (List Int))
 | 0, _, _ => none
 | n + 1, t125_e, o109_e => cond (decide (t125_e < (o32_b.length : Int))) (chk (decide (0 ≤ t125_e ∧ t125_e < (o32_b.length : Int))) (chk (decide (0 ≤ t125_e ∧ t125_e < (o109_e.length : Int))) (chk (decide (0 < (o109_e.getD t125_e.toNat ([] : List Int)).length) && decide ((o32_b.getD t125_e.toNat ([] : List Int)).length ≤ (o109_e.getD t125_e.toNat ([] : List Int)).length)) (chk (decide (0 ≤ t125_e ∧ t125_e < (o109_e.length : Int))) (chk (decide (0 ≤ t125_e ∧ t125_e < (o1271500_b.length : Int))) (chk (decide (0 ≤ w64 ((machines8_b.length : Int) + t125_e) ∧ w64 ((machines8_b.length : Int) + t125_e) < (((o109_e.set t125_e.toNat ((o32_b.getD t125_e.toNat ([] : List Int)) ++ (o109_e.getD t125_e.toNat ([] : List Int)).drop ((o32_b.getD t125_e.toNat ([] : List Int)).length))).getD t125_e.toNat ([] : List Int)).length : Int))) ((l47f a25 N length2 machines8_b o1271500_b o32_b t125_e (fun y0 y1 => (l47e a25 N length2 machines8_b o1271500_b o32_b n y0 y1)) N (0 : Int) ((o109_e.set t125_e.toNat ((o32_b.getD t125_e.toNat ([] : List Int)) ++ (o109_e.getD t125_e.toNat ([] : List Int)).drop ((o32_b.getD t125_e.toNat ([] : List Int)).length))).set t125_e.toNat (((o109_e.set t125_e.toNat ((o32_b.getD t125_e.toNat ([] : List Int)) ++ (o109_e.getD t125_e.toNat ([] : List Int)).drop ((o32_b.getD t125_e.toNat ([] : List Int)).length))).getD t125_e.toNat ([] : List Int)).set ((w64 ((machines8_b.length : Int) + t125_e)).toNat) (w64 (length2 - (o1271500_b.getD t125_e.toNat (0 : Int))))))))))))))
   ((l47g a25 N length2 machines8_b o32_b N (0 : Int) o109_e))
theorem wl47e (a25 : (List (List Int)) → Option (List Int × List Int)) (N : Nat) (length2 : Int) (machines8_b : List Int) (o1271500_b : List Int) (o32_b : List (List Int)) (m : Nat) (t125_e : Int) (o109_e : List (List Int)) : R47_4 a25 N (m + 1) (Sl47e length2 machines8_b o1271500_b o32_b t125_e o109_e) = cond (decide (t125_e < (o32_b.length : Int))) (chk (decide (0 ≤ t125_e ∧ t125_e < (o32_b.length : Int))) (chk (decide (0 ≤ t125_e ∧ t125_e < (o109_e.length : Int))) (chk (decide (0 < (o109_e.getD t125_e.toNat ([] : List Int)).length) && decide ((o32_b.getD t125_e.toNat ([] : List Int)).length ≤ (o109_e.getD t125_e.toNat ([] : List Int)).length)) (chk (decide (0 ≤ t125_e ∧ t125_e < (o109_e.length : Int))) (chk (decide (0 ≤ t125_e ∧ t125_e < (o1271500_b.length : Int))) (chk (decide (0 ≤ w64 ((machines8_b.length : Int) + t125_e) ∧ w64 ((machines8_b.length : Int) + t125_e) < (((o109_e.set t125_e.toNat ((o32_b.getD t125_e.toNat ([] : List Int)) ++ (o109_e.getD t125_e.toNat ([] : List Int)).drop ((o32_b.getD t125_e.toNat ([] : List Int)).length))).getD t125_e.toNat ([] : List Int)).length : Int))) ((R47_5 a25 N (R47_4 a25 N m) N (Sl47f length2 machines8_b o1271500_b o32_b t125_e (0 : Int) ((o109_e.set t125_e.toNat ((o32_b.getD t125_e.toNat ([] : List Int)) ++ (o109_e.getD t125_e.toNat ([] : List Int)).drop ((o32_b.getD t125_e.toNat ([] : List Int)).length))).set t125_e.toNat (((o109_e.set t125_e.toNat ((o32_b.getD t125_e.toNat ([] : List Int)) ++ (o109_e.getD t125_e.toNat ([] : List Int)).drop ((o32_b.getD t125_e.toNat ([] : List Int)).length))).getD t125_e.toNat ([] : List Int)).set ((w64 ((machines8_b.length : Int) + t125_e)).toNat) (w64 (length2 - (o1271500_b.getD t125_e.toNat (0 : Int)))))))))))))))
   ((R47_6 a25 N N (Sl47g length2 machines8_b o32_b (0 : Int) o109_e))) := by kernel_rfl
theorem ql47e (a25 : (List (List Int)) → Option (List Int × List Int)) (N : Nat) (length2 : Int) (machines8_b : List Int) (o1271500_b : List Int) (o32_b : List (List Int)) : ∀ (m : Nat) (t125_e : Int) (o109_e : List (List Int)), R47_4 a25 N m (Sl47e length2 machines8_b o1271500_b o32_b t125_e o109_e) = l47e a25 N length2 machines8_b o1271500_b o32_b m t125_e o109_e
        | 0, _, _ => rfl
        | m + 1, t125_e, o109_e => by rw [wl47e]; simp only [l47e, ql47f, ql47g, ql47e a25 N length2 machines8_b o1271500_b o32_b m]
def l47d (a25 : (List (List Int)) → Option (List Int × List Int)) (N : Nat) (length2 : Int) (machines8_b : List Int) (o1271500_b : List Int) (o32_b : List (List Int)) : Nat → Int → (List (List Int)) → Option (List (List Int))
 | 0, _, _ => none
 | n + 1, t112_d, o109_d => cond (decide (t112_d < ((List.replicate ((w64 ((o32_b.length : Int) + (machines8_b.length : Int))).toNat) ([] : List Int)).length : Int))) (chk (mkOk (w64 ((o32_b.length : Int) + (machines8_b.length : Int))) (w64 ((o32_b.length : Int) + (machines8_b.length : Int))) 8) (chk (decide (0 ≤ t112_d ∧ t112_d < (o109_d.length : Int))) ((l47d a25 N length2 machines8_b o1271500_b o32_b n (w64 (t112_d + (1 : Int))) (o109_d.set t112_d.toNat (List.replicate ((w64 ((o32_b.length : Int) + (machines8_b.length : Int))).toNat) (0 : Int)))))))
   ((l47e a25 N length2 machines8_b o1271500_b o32_b N (0 : Int) o109_d))
theorem wl47d (a25 : (List (List Int)) → Option (List Int × List Int)) (N : Nat) (length2 : Int) (machines8_b : List Int) (o1271500_b : List Int) (o32_b : List (List Int)) (m : Nat) (t112_d : Int) (o109_d : List (List Int)) : R47_3 a25 N (m + 1) (Sl47d length2 machines8_b o1271500_b o32_b t112_d o109_d) = cond (decide (t112_d < ((List.replicate ((w64 ((o32_b.length : Int) + (machines8_b.length : Int))).toNat) ([] : List Int)).length : Int))) (chk (mkOk (w64 ((o32_b.length : Int) + (machines8_b.length : Int))) (w64 ((o32_b.length : Int) + (machines8_b.length : Int))) 8) (chk (decide (0 ≤ t112_d ∧ t112_d < (o109_d.length : Int))) ((R47_3 a25 N m (Sl47d length2 machines8_b o1271500_b o32_b (w64 (t112_d + (1 : Int))) (o109_d.set t112_d.toNat (List.replicate ((w64 ((o32_b.length : Int) + (machines8_b.length : Int))).toNat) (0 : Int))))))))
   ((R47_4 a25 N N (Sl47e length2 machines8_b o1271500_b o32_b (0 : Int) o109_d))) := by kernel_rfl
theorem ql47d (a25 : (List (List Int)) → Option (List Int × List Int)) (N : Nat) (length2 : Int) (machines8_b : List Int) (o1271500_b : List Int) (o32_b : List (List Int)) : ∀ (m : Nat) (t112_d : Int) (o109_d : List (List Int)), R47_3 a25 N m (Sl47d length2 machines8_b o1271500_b o32_b t112_d o109_d) = l47d a25 N length2 machines8_b o1271500_b o32_b m t112_d o109_d
        | 0, _, _ => rfl
        | m + 1, t112_d, o109_d => by rw [wl47d]; simp only [l47d, ql47e, ql47d a25 N length2 machines8_b o1271500_b o32_b m]
def l47b (a25 : (List (List Int)) → Option (List Int × List Int)) (N : Nat) (work0 : List (List Int)) (seats1 : Int) (length2 : Int) : Nat → Int → (List Int) → (List Int) → (List (List Int)) → Option (List (List Int))
 | 0, _, _, _, _ => none
 | n + 1, t58_b, machines8_b, o1271500_b, o32_b => cond (decide (t58_b < (imax (0 : Int) (w64 ((work0.length : Int) - seats1))))) ((l47c a25 N work0 seats1 length2 t58_b machines8_b o32_b (fun y0 y1 y2 y3 => (l47b a25 N work0 seats1 length2 n y0 y1 y2 y3)) N length2 (0 : Int) o1271500_b o32_b))
   (chk (mkOk (w64 ((o32_b.length : Int) + (machines8_b.length : Int))) (w64 ((o32_b.length : Int) + (machines8_b.length : Int))) 24) ((l47d a25 N length2 machines8_b o1271500_b o32_b N (0 : Int) (List.replicate ((w64 ((o32_b.length : Int) + (machines8_b.length : Int))).toNat) ([] : List Int)))))
theorem wl47b (a25 : (List (List Int)) → Option (List Int × List Int)) (N : Nat) (work0 : List (List Int)) (seats1 : Int) (length2 : Int) (m : Nat) (t58_b : Int) (machines8_b : List Int) (o1271500_b : List Int) (o32_b : List (List Int)) : R47_1 a25 N (m + 1) (Sl47b work0 seats1 length2 t58_b machines8_b o1271500_b o32_b) = cond (decide (t58_b < (imax (0 : Int) (w64 ((work0.length : Int) - seats1))))) ((R47_2 a25 N (R47_1 a25 N m) N (Sl47c work0 seats1 length2 t58_b machines8_b o32_b length2 (0 : Int) o1271500_b o32_b)))
   (chk (mkOk (w64 ((o32_b.length : Int) + (machines8_b.length : Int))) (w64 ((o32_b.length : Int) + (machines8_b.length : Int))) 24) ((R47_3 a25 N N (Sl47d length2 machines8_b o1271500_b o32_b (0 : Int) (List.replicate ((w64 ((o32_b.length : Int) + (machines8_b.length : Int))).toNat) ([] : List Int)))))) := by kernel_rfl
theorem ql47b (a25 : (List (List Int)) → Option (List Int × List Int)) (N : Nat) (work0 : List (List Int)) (seats1 : Int) (length2 : Int) : ∀ (m : Nat) (t58_b : Int) (machines8_b : List Int) (o1271500_b : List Int) (o32_b : List (List Int)), R47_1 a25 N m (Sl47b work0 seats1 length2 t58_b machines8_b o1271500_b o32_b) = l47b a25 N work0 seats1 length2 m t58_b machines8_b o1271500_b o32_b
        | 0, _, _, _, _ => rfl
        | m + 1, t58_b, machines8_b, o1271500_b, o32_b => by rw [wl47b]; simp only [l47b, ql47c, ql47d, ql47b a25 N work0 seats1 length2 m]
def l47a (a25 : (List (List Int)) → Option (List Int × List Int)) (N : Nat) (work0 : List (List Int)) (seats1 : Int) (length2 : Int) (r1 : List Int × List Int) : Nat → Int → (List (List Int)) → Option (List (List Int))
 | 0, _, _ => none
 | n + 1, t35_a, o32_a => cond (decide (t35_a < (work0.length : Int))) (chk (decide (0 ≤ t35_a ∧ t35_a < (work0.length : Int))) (chk (mkOk ((work0.getD t35_a.toNat ([] : List Int)).length : Int) ((work0.getD t35_a.toNat ([] : List Int)).length : Int) 8) (chk (decide (0 ≤ t35_a ∧ t35_a < (o32_a.length : Int))) (chk (decide (0 ≤ t35_a ∧ t35_a < ((o32_a.set t35_a.toNat (List.replicate (((work0.getD t35_a.toNat ([] : List Int)).length : Int).toNat) (0 : Int))).length : Int))) (chk (decide (0 < ((o32_a.set t35_a.toNat (List.replicate (((work0.getD t35_a.toNat ([] : List Int)).length : Int).toNat) (0 : Int))).getD t35_a.toNat ([] : List Int)).length) && decide ((work0.getD t35_a.toNat ([] : List Int)).length ≤ ((o32_a.set t35_a.toNat (List.replicate (((work0.getD t35_a.toNat ([] : List Int)).length : Int).toNat) (0 : Int))).getD t35_a.toNat ([] : List Int)).length)) ((l47a a25 N work0 seats1 length2 r1 n (w64 (t35_a + (1 : Int))) ((o32_a.set t35_a.toNat (List.replicate (((work0.getD t35_a.toNat ([] : List Int)).length : Int).toNat) (0 : Int))).set t35_a.toNat ((work0.getD t35_a.toNat ([] : List Int)) ++ ((o32_a.set t35_a.toNat (List.replicate (((work0.getD t35_a.toNat ([] : List Int)).length : Int).toNat) (0 : Int))).getD t35_a.toNat ([] : List Int)).drop ((work0.getD t35_a.toNat ([] : List Int)).length))))))))))
   ((l47b a25 N work0 seats1 length2 N (0 : Int) r1.2 r1.1 o32_a))
theorem wl47a (a25 : (List (List Int)) → Option (List Int × List Int)) (N : Nat) (work0 : List (List Int)) (seats1 : Int) (length2 : Int) (r1 : List Int × List Int) (m : Nat) (t35_a : Int) (o32_a : List (List Int)) : R47_0 a25 N (m + 1) (Sl47a work0 seats1 length2 r1 t35_a o32_a) = cond (decide (t35_a < (work0.length : Int))) (chk (decide (0 ≤ t35_a ∧ t35_a < (work0.length : Int))) (chk (mkOk ((work0.getD t35_a.toNat ([] : List Int)).length : Int) ((work0.getD t35_a.toNat ([] : List Int)).length : Int) 8) (chk (decide (0 ≤ t35_a ∧ t35_a < (o32_a.length : Int))) (chk (decide (0 ≤ t35_a ∧ t35_a < ((o32_a.set t35_a.toNat (List.replicate (((work0.getD t35_a.toNat ([] : List Int)).length : Int).toNat) (0 : Int))).length : Int))) (chk (decide (0 < ((o32_a.set t35_a.toNat (List.replicate (((work0.getD t35_a.toNat ([] : List Int)).length : Int).toNat) (0 : Int))).getD t35_a.toNat ([] : List Int)).length) && decide ((work0.getD t35_a.toNat ([] : List Int)).length ≤ ((o32_a.set t35_a.toNat (List.replicate (((work0.getD t35_a.toNat ([] : List Int)).length : Int).toNat) (0 : Int))).getD t35_a.toNat ([] : List Int)).length)) ((R47_0 a25 N m (Sl47a work0 seats1 length2 r1 (w64 (t35_a + (1 : Int))) ((o32_a.set t35_a.toNat (List.replicate (((work0.getD t35_a.toNat ([] : List Int)).length : Int).toNat) (0 : Int))).set t35_a.toNat ((work0.getD t35_a.toNat ([] : List Int)) ++ ((o32_a.set t35_a.toNat (List.replicate (((work0.getD t35_a.toNat ([] : List Int)).length : Int).toNat) (0 : Int))).getD t35_a.toNat ([] : List Int)).drop ((work0.getD t35_a.toNat ([] : List Int)).length)))))))))))
   ((R47_1 a25 N N (Sl47b work0 seats1 length2 (0 : Int) r1.2 r1.1 o32_a))) := by kernel_rfl
theorem ql47a (a25 : (List (List Int)) → Option (List Int × List Int)) (N : Nat) (work0 : List (List Int)) (seats1 : Int) (length2 : Int) (r1 : List Int × List Int) : ∀ (m : Nat) (t35_a : Int) (o32_a : List (List Int)), R47_0 a25 N m (Sl47a work0 seats1 length2 r1 t35_a o32_a) = l47a a25 N work0 seats1 length2 r1 m t35_a o32_a
        | 0, _, _ => rfl
        | m + 1, t35_a, o32_a => by rw [wl47a]; simp only [l47a, ql47b, ql47a a25 N work0 seats1 length2 r1 m]
def m47 (a25 : (List (List Int)) → Option (List Int × List Int)) (N : Nat) (work0 : List (List Int)) (seats1 : Int) (length2 : Int) : Option (List (List Int)) :=
   (a25 work0).bind fun r1 =>
   chk (mkOk (work0.length : Int) (work0.length : Int) 24) ((l47a a25 N work0 seats1 length2 r1 N (0 : Int) (List.replicate ((work0.length : Int).toNat) ([] : List Int))))
theorem wm47 (a25 : (List (List Int)) → Option (List Int × List Int)) (N : Nat) (work0 : List (List Int)) (seats1 : Int) (length2 : Int) : callF (E47 a25) lv47 N en47 c47 (resOf Try.f47) 187 [.dv (.sl (.sl (.int .i64))) work0, .dv (.int .i64) seats1, .dv (.int .i64) length2] [] dec47 = (a25 work0).bind fun r1 =>
   chk (mkOk (work0.length : Int) (work0.length : Int) 24) ((R47_0 a25 N N (Sl47a work0 seats1 length2 r1 (0 : Int) (List.replicate ((work0.length : Int).toNat) ([] : List Int))))) := by kernel_rfl
theorem k47 (a25 : (List (List Int)) → Option (List Int × List Int)) (N : Nat) (work0 : List (List Int)) (seats1 : Int) (length2 : Int) : callF (E47 a25) lv47 N en47 c47 (resOf Try.f47) 187 [.dv (.sl (.sl (.int .i64))) work0, .dv (.int .i64) seats1, .dv (.int .i64) length2] [] dec47 = m47 a25 N work0 seats1 length2 := by rw [wm47]; simp only [m47, ql47a]
theorem ok47 (a25 : (List (List Int)) → Option (List Int × List Int)) (h25 : FnOk Try.prog 25 (F25 a25)) (a : (List (List Int)) → Int → Int → Option (List (List Int))) (h : ∀ work0 seats1 length2 r, a work0 seats1 length2 = some r → (∃ N, m47 a25 N work0 seats1 length2 = some r)) : FnOk Try.prog 47 (F47 a) := by
 intro args Of x hx
 simp only [F47] at hx
 split at hx
 ·rename_i work0 seats1 length2
  obtain ⟨N, hN⟩ := h _ _ _ _ hx
  refine lifted (L := [(25, F25 a25)]) (rc := nrc) (fz := (fun i => ([32, 109] : List Nat).contains i)) (fn := Try.f47) (by kernel_rfl) (by kernel_rfl) (by kernel_rfl) (by kernel_rfl) rfl ?_ ((k47 a25 N _ _ _).trans hN) ?_
  ·intro p hp; simp only [List.mem_cons, List.not_mem_nil, or_false] at hp; rcases hp with rfl; exact h25
  ·intro l o hd
   simp only [dec47] at hd
   split at hd
   ·obtain rfl := oij hd; exact ⟨rfl, rfl⟩
   ·cases hd
 ·cases hx
def E104 : Env := mkE TI TY [] nrc nfz
noncomputable def c104 : Code := bodyOf Try.f104
def lv104 : Nat → Option Norm := norms []
def en104 : End := ⟨[], ⟨[51, 52], [], [], []⟩⟩
def dec104 (l : List TV) (o : List (Nat × TO)) : Option (Int × Int) := match l, o with | [.dv (.int .u64) x0, .dv (.int .u64) x1], [] => some (x0, x1) | _, _ => none
def m104 (N : Nat) (x0 : Int) (y1 : Int) : Option (Int × Int) :=
   some (IntKind.wrap .u64 ((IntKind.wrap .u64 ((IntKind.wrap .u64 ((Int.fdiv x0 (2 ^ min (Int.toNat (32 : Int)) 64)) * (Int.fdiv y1 (2 ^ min (Int.toNat (32 : Int)) 64)))) + (Int.fdiv (IntKind.wrap .u64 ((IntKind.wrap .u64 ((Int.fdiv x0 (2 ^ min (Int.toNat (32 : Int)) 64)) * (bAnd .u64 y1 (4294967295 : Int)))) + (Int.fdiv (IntKind.wrap .u64 ((bAnd .u64 x0 (4294967295 : Int)) * (bAnd .u64 y1 (4294967295 : Int)))) (2 ^ min (Int.toNat (32 : Int)) 64)))) (2 ^ min (Int.toNat (32 : Int)) 64)))) + (Int.fdiv (IntKind.wrap .u64 ((bAnd .u64 (IntKind.wrap .u64 ((IntKind.wrap .u64 ((Int.fdiv x0 (2 ^ min (Int.toNat (32 : Int)) 64)) * (bAnd .u64 y1 (4294967295 : Int)))) + (Int.fdiv (IntKind.wrap .u64 ((bAnd .u64 x0 (4294967295 : Int)) * (bAnd .u64 y1 (4294967295 : Int)))) (2 ^ min (Int.toNat (32 : Int)) 64)))) (4294967295 : Int)) + (IntKind.wrap .u64 ((bAnd .u64 x0 (4294967295 : Int)) * (Int.fdiv y1 (2 ^ min (Int.toNat (32 : Int)) 64)))))) (2 ^ min (Int.toNat (32 : Int)) 64))), IntKind.wrap .u64 (x0 * y1))
theorem k104 (N : Nat) (x0 : Int) (y1 : Int) : callF (E104) lv104 N en104 c104 (resOf Try.f104) 49 [.dv (.int .u64) x0, .dv (.int .u64) y1] [] dec104 = m104 N x0 y1 := by kernel_rfl
theorem ok104 (a : Int → Int → Option (Int × Int)) (h : ∀ x0 y1 r, a x0 y1 = some r → (∃ N, m104 N x0 y1 = some r)) : FnOk Try.prog 104 (F104 a) := by
 intro args Of x hx
 simp only [F104] at hx
 split at hx
 ·rename_i x0 y1
  obtain ⟨N, hN⟩ := h _ _ _ hx
  refine lifted (L := []) (rc := nrc) (fz := nfz) (fn := Try.f104) (by kernel_rfl) (by kernel_rfl) (by kernel_rfl) (by kernel_rfl) rfl ?_ ((k104 N _ _).trans hN) ?_
  ·intro p hp; cases hp
  ·intro l o hd
   simp only [dec104] at hd
   split at hd
   ·obtain rfl := oij hd; exact ⟨rfl, rfl⟩
   ·cases hd
 ·cases hx
def E95 (a104 : Int → Int → Option (Int × Int)) : Env := mkE TI TY [(104, F104 a104)] nrc nfz
noncomputable def c95 : Code := bodyOf Try.f95
def lv95 : Nat → Option Norm := norms []
def en95 : End := ⟨[], ⟨[30, 31], [], [], []⟩⟩
def dec95 (l : List TV) (o : List (Nat × TO)) : Option (Int × Int) := match l, o with | [.dv (.int .u64) x0, .dv (.int .u64) x1], [] => some (x0, x1) | _, _ => none
def m95 (a104 : Int → Int → Option (Int × Int)) (N : Nat) (x0 : Int) (y1 : Int) : Option (Int × Int) :=
   (a104 x0 y1).bind fun r1 =>
   some (r1.1, r1.2)
theorem k95 (a104 : Int → Int → Option (Int × Int)) (N : Nat) (x0 : Int) (y1 : Int) : callF (E95 a104) lv95 N en95 c95 (resOf Try.f95) 28 [.dv (.int .u64) x0, .dv (.int .u64) y1] [] dec95 = m95 a104 N x0 y1 := by kernel_rfl
theorem ok95 (a104 : Int → Int → Option (Int × Int)) (h104 : FnOk Try.prog 104 (F104 a104)) (a : Int → Int → Option (Int × Int)) (h : ∀ x0 y1 r, a x0 y1 = some r → (∃ N, m95 a104 N x0 y1 = some r)) : FnOk Try.prog 95 (F95 a) := by
 intro args Of x hx
 simp only [F95] at hx
 split at hx
 ·rename_i x0 y1
  obtain ⟨N, hN⟩ := h _ _ _ hx
  refine lifted (L := [(104, F104 a104)]) (rc := nrc) (fz := nfz) (fn := Try.f95) (by kernel_rfl) (by kernel_rfl) (by kernel_rfl) (by kernel_rfl) rfl ?_ ((k95 a104 N _ _).trans hN) ?_
  ·intro p hp; simp only [List.mem_cons, List.not_mem_nil, or_false] at hp; rcases hp with rfl; exact h104
  ·intro l o hd
   simp only [dec95] at hd
   split at hd
   ·obtain rfl := oij hd; exact ⟨rfl, rfl⟩
   ·cases hd
 ·cases hx
def E77 (a95 : Int → Int → Option (Int × Int)) : Env := mkE TI TY [(95, F95 a95)] nrc nfz
noncomputable def c77 : Code := bodyOf Try.f77
def nm77_0 : Norm := ⟨[7, 8], [30], [], []⟩
def lv77 : Nat → Option Norm := norms [(8, nm77_0)]
def en77 : End := ⟨[], ⟨[], [], [(.slot 48, 1500, .int .i64)], []⟩⟩
def dec77 (l : List TV) (o : List (Nat × TO)) : Option (List Int) := match l, o with | [.row 1500], [(1500, .row (.int .i64) x0)] => some (x0) | _, _ => none
def Sl77a (n8_a : Int) (o30_a : List Int) : TS := ⟨slots 48 [(7, .row 30), (8, .dv (.int .i64) n8_a)], [(30, .row (.int .i64) o30_a)]⟩
noncomputable def K77_0 (a95 : Int → Int → Option (Int × Int)) (N : Nat) : Kont (List Int) := kont (E77 a95) lv77 N c77 [1, 1, 1, 1, 1, 1, 0, 0] (fin TI en77 (resOf Try.f77) dec77)
noncomputable def R77_0 (a95 : Int → Int → Option (Int × Int)) (N : Nat) (m : Nat) : TS → Option (List Int) := loopK (den (E77 a95) lv77 N (sub c77 [1, 1, 1, 1, 1, 1, 0, 0, 0])) (TS.norm nm77_0) (K77_0 a95 N) m
def l77a (a95 : Int → Int → Option (Int × Int)) (N : Nat) : Nat → Int → (List Int) → Option (List Int)
 | 0, _, _ => none
 | n + 1, n8_a, o30_a => cond (decide (n8_a < (o30_a.length : Int))) (chk (decide (0 ≤ n8_a ∧ n8_a ≤ (o30_a.length : Int))) (chk (decide (0 ≤ n8_a ∧ n8_a ≤ (o30_a.length : Int))) (chk (decide (n8_a.toNat < o30_a.length)) ((l77a a95 N n (w64 (n8_a + ((min (n8_a.toNat - 0) (o30_a.length - n8_a.toNat) : Nat) : Int))) (cpy o30_a n8_a.toNat 0 (min (n8_a.toNat - 0) (o30_a.length - n8_a.toNat))))))))
   (some o30_a)
theorem wl77a (a95 : Int → Int → Option (Int × Int)) (N : Nat) (m : Nat) (n8_a : Int) (o30_a : List Int) : R77_0 a95 N (m + 1) (Sl77a n8_a o30_a) = cond (decide (n8_a < (o30_a.length : Int))) (chk (decide (0 ≤ n8_a ∧ n8_a ≤ (o30_a.length : Int))) (chk (decide (0 ≤ n8_a ∧ n8_a ≤ (o30_a.length : Int))) (chk (decide (n8_a.toNat < o30_a.length)) ((R77_0 a95 N m (Sl77a (w64 (n8_a + ((min (n8_a.toNat - 0) (o30_a.length - n8_a.toNat) : Nat) : Int))) (cpy o30_a n8_a.toNat 0 (min (n8_a.toNat - 0) (o30_a.length - n8_a.toNat)))))))))
   (some o30_a) := by kernel_rfl
theorem ql77a (a95 : Int → Int → Option (Int × Int)) (N : Nat) : ∀ (m : Nat) (n8_a : Int) (o30_a : List Int), R77_0 a95 N m (Sl77a n8_a o30_a) = l77a a95 N m n8_a o30_a
        | 0, _, _ => rfl
        | m + 1, n8_a, o30_a => by rw [wl77a]; simp only [l77a, ql77a a95 N m]
def m77 (a95 : Int → Int → Option (Int × Int)) (N : Nat) (x0 : List Int) (count1 : Int) : Option (List Int) :=
   cond (decide (count1 < (0 : Int))) (none)
   ((a95 (IntKind.wrap .u64 ((x0.length : Int))) (IntKind.wrap .u64 (count1))).bind fun r1 =>
   cond (decide (r1.1 > (0 : Int))) (none)
   (cond (decide (r1.2 > (9223372036854775807 : Int))) (none)
   (chk (mkOk (w64 (r1.2)) (w64 (r1.2)) 8) (chk (decide (0 < (List.replicate ((w64 (r1.2)).toNat) (0 : Int)).length) && decide (x0.length ≤ (List.replicate ((w64 (r1.2)).toNat) (0 : Int)).length)) ((l77a a95 N N (x0.length : Int) (x0 ++ (List.replicate ((w64 (r1.2)).toNat) (0 : Int)).drop x0.length)))))))
theorem wm77 (a95 : Int → Int → Option (Int × Int)) (N : Nat) (x0 : List Int) (count1 : Int) : callF (E77 a95) lv77 N en77 c77 (resOf Try.f77) 46 [.dv (.sl (.int .i64)) x0, .dv (.int .i64) count1] [] dec77 = cond (decide (count1 < (0 : Int))) (none)
   ((a95 (IntKind.wrap .u64 ((x0.length : Int))) (IntKind.wrap .u64 (count1))).bind fun r1 =>
   cond (decide (r1.1 > (0 : Int))) (none)
   (cond (decide (r1.2 > (9223372036854775807 : Int))) (none)
   (chk (mkOk (w64 (r1.2)) (w64 (r1.2)) 8) (chk (decide (0 < (List.replicate ((w64 (r1.2)).toNat) (0 : Int)).length) && decide (x0.length ≤ (List.replicate ((w64 (r1.2)).toNat) (0 : Int)).length)) ((R77_0 a95 N N (Sl77a (x0.length : Int) (x0 ++ (List.replicate ((w64 (r1.2)).toNat) (0 : Int)).drop x0.length)))))))) := by kernel_rfl
theorem k77 (a95 : Int → Int → Option (Int × Int)) (N : Nat) (x0 : List Int) (count1 : Int) : callF (E77 a95) lv77 N en77 c77 (resOf Try.f77) 46 [.dv (.sl (.int .i64)) x0, .dv (.int .i64) count1] [] dec77 = m77 a95 N x0 count1 := by rw [wm77]; simp only [m77, ql77a]
theorem ok77 (a95 : Int → Int → Option (Int × Int)) (h95 : FnOk Try.prog 95 (F95 a95)) (a : (List Int) → Int → Option (List Int)) (h : ∀ x0 count1 r, a x0 count1 = some r → (∃ N, m77 a95 N x0 count1 = some r)) : FnOk Try.prog 77 (F77 a) := by
 intro args Of x hx
 simp only [F77] at hx
 split at hx
 ·rename_i x0 count1
  obtain ⟨N, hN⟩ := h _ _ _ hx
  refine lifted (L := [(95, F95 a95)]) (rc := nrc) (fz := nfz) (fn := Try.f77) (by kernel_rfl) (by kernel_rfl) (by kernel_rfl) (by kernel_rfl) rfl ?_ ((k77 a95 N _ _).trans hN) ?_
  ·intro p hp; simp only [List.mem_cons, List.not_mem_nil, or_false] at hp; rcases hp with rfl; exact h95
  ·intro l o hd
   simp only [dec77] at hd
   split at hd
   ·obtain rfl := oij hd; exact ⟨rfl, rfl⟩
   ·cases hd
 ·cases hx
def E78c (a78c : Int → (List Bool) → (List (List Int)) → (List Int) → Option (Bool × List Bool × List (List Int) × List Int)) : Env := mkE TI TY [(78, F78c a78c)] nrc nfz
noncomputable def c78c : Code := bodyOf Try.f78
def nm78c_0 : Norm := ⟨[0, 1, 3, 4, 13, 14, 15], [9000, 9002, 9003, 9001, 9004], [], []⟩
def lv78c : Nat → Option Norm := norms [(2, nm78c_0)]
def en78c : End := ⟨[], ⟨[50], [9000, 9001, 9002, 9003, 9004], [], []⟩⟩
def dec78c (l : List TV) (o : List (Nat × TO)) : Option (Bool × List Bool × List (List Int) × List Int) := match l, o, capsOf l o with | [.dv (.bool) x0], [(9000, .row (.bool) x1), (9001, .rcd [.dv (.sl (.sl (.int .i64))) x2]), (9002, .rcd [.row 9004]), (9003, .rcd [.fn 78 0 3 _]), (9004, .row (.int .i64) x3)], [[.ptr 9001 0 [0], .ptr 9002 0 [0], .ptr 9003 0 [0]]] => some (x0, x1, x2, x3) | _, _, _ => none
def Sl78ca (i0 : Int) (p2 : List (List Int)) (t15_a : Int) (o9000_a : List Bool) (o9001_af0 : List (List Int)) (o9004_a : List Int) : TS := ⟨slots 50 [(0, .dv (.int .i64) i0), (1, .row 9000), (3, .ptr 9002 0 [0]), (4, .ptr 9003 0 [0]), (13, .dv (.sl (.int .i64)) (p2.getD i0.toNat ([] : List Int))), (14, .dv (.int .i64) ((p2.getD i0.toNat ([] : List Int)).length : Int)), (15, .dv (.int .i64) t15_a)], [(9000, .row (.bool) o9000_a), (9002, .rcd [.row 9004]), (9003, .rcd [.fn 78 0 3 fun i => ([.ptr 9001 0 [0], .ptr 9002 0 [0], .ptr 9003 0 [0]] : List TV).getD i .any]), (9001, .rcd [.dv (.sl (.sl (.int .i64))) o9001_af0]), (9004, .row (.int .i64) o9004_a)]⟩
noncomputable def K78c_0 (a78c : Int → (List Bool) → (List (List Int)) → (List Int) → Option (Bool × List Bool × List (List Int) × List Int)) (N : Nat) : Kont (Bool × List Bool × List (List Int) × List Int) := kont (E78c a78c) lv78c N c78c [1, 0, 1, 0] (fin TI en78c (resOf Try.f78) dec78c)
noncomputable def R78c_0 (a78c : Int → (List Bool) → (List (List Int)) → (List Int) → Option (Bool × List Bool × List (List Int) × List Int)) (N : Nat) (m : Nat) : TS → Option (Bool × List Bool × List (List Int) × List Int) := loopK (den (E78c a78c) lv78c N (sub c78c [1, 0, 1, 0, 0])) (TS.norm nm78c_0) (K78c_0 a78c N) m
def l78ca (a78c : Int → (List Bool) → (List (List Int)) → (List Int) → Option (Bool × List Bool × List (List Int) × List Int)) (N : Nat) (i0 : Int) (p2 : List (List Int)) : Nat → Int → (List Bool) → (List (List Int)) → (List Int) → Option (Bool × List Bool × List (List Int) × List Int)
 | 0, _, _, _, _ => none
 | n + 1, t15_a, o9000_a, o9001_af0, o9004_a => cond (decide (t15_a < ((p2.getD i0.toNat ([] : List Int)).length : Int))) (chk (decide (0 ≤ t15_a ∧ t15_a < ((p2.getD i0.toNat ([] : List Int)).length : Int))) (cond (((p2.getD i0.toNat ([] : List Int)).getD t15_a.toNat (0 : Int)) == (0 : Int)) ((l78ca a78c N i0 p2 n (w64 (t15_a + (1 : Int))) o9000_a o9001_af0 o9004_a))
   (chk (decide (0 ≤ t15_a ∧ t15_a < (o9000_a.length : Int))) (cond (o9000_a.getD t15_a.toNat false) ((l78ca a78c N i0 p2 n (w64 (t15_a + (1 : Int))) o9000_a o9001_af0 o9004_a))
   (chk (decide (0 ≤ t15_a ∧ t15_a < (o9000_a.length : Int))) (chk (decide (0 ≤ t15_a ∧ t15_a < (o9004_a.length : Int))) (cond (decide ((o9004_a.getD t15_a.toNat (0 : Int)) < (0 : Int))) (chk (decide (0 ≤ t15_a ∧ t15_a < (o9004_a.length : Int))) (some (true, o9000_a.set t15_a.toNat true, o9001_af0, o9004_a.set t15_a.toNat i0)))
   (chk (decide (0 ≤ t15_a ∧ t15_a < (o9004_a.length : Int))) ((a78c (o9004_a.getD t15_a.toNat (0 : Int)) (o9000_a.set t15_a.toNat true) o9001_af0 o9004_a).bind fun r1 =>
   cond (r1.1) (chk (decide (0 ≤ t15_a ∧ t15_a < (r1.2.2.2.length : Int))) (some (true, r1.2.1, r1.2.2.1, r1.2.2.2.set t15_a.toNat i0)))
   ((l78ca a78c N i0 p2 n (w64 (t15_a + (1 : Int))) r1.2.1 r1.2.2.1 r1.2.2.2)))))))))))
   (some (false, o9000_a, o9001_af0, o9004_a))
theorem wl78ca (a78c : Int → (List Bool) → (List (List Int)) → (List Int) → Option (Bool × List Bool × List (List Int) × List Int)) (N : Nat) (i0 : Int) (p2 : List (List Int)) (m : Nat) (t15_a : Int) (o9000_a : List Bool) (o9001_af0 : List (List Int)) (o9004_a : List Int) : R78c_0 a78c N (m + 1) (Sl78ca i0 p2 t15_a o9000_a o9001_af0 o9004_a) = cond (decide (t15_a < ((p2.getD i0.toNat ([] : List Int)).length : Int))) (chk (decide (0 ≤ t15_a ∧ t15_a < ((p2.getD i0.toNat ([] : List Int)).length : Int))) (cond (((p2.getD i0.toNat ([] : List Int)).getD t15_a.toNat (0 : Int)) == (0 : Int)) ((R78c_0 a78c N m (Sl78ca i0 p2 (w64 (t15_a + (1 : Int))) o9000_a o9001_af0 o9004_a)))
   (chk (decide (0 ≤ t15_a ∧ t15_a < (o9000_a.length : Int))) (cond (o9000_a.getD t15_a.toNat false) ((R78c_0 a78c N m (Sl78ca i0 p2 (w64 (t15_a + (1 : Int))) o9000_a o9001_af0 o9004_a)))
   (chk (decide (0 ≤ t15_a ∧ t15_a < (o9000_a.length : Int))) (chk (decide (0 ≤ t15_a ∧ t15_a < (o9004_a.length : Int))) (cond (decide ((o9004_a.getD t15_a.toNat (0 : Int)) < (0 : Int))) (chk (decide (0 ≤ t15_a ∧ t15_a < (o9004_a.length : Int))) (some (true, o9000_a.set t15_a.toNat true, o9001_af0, o9004_a.set t15_a.toNat i0)))
   (chk (decide (0 ≤ t15_a ∧ t15_a < (o9004_a.length : Int))) ((a78c (o9004_a.getD t15_a.toNat (0 : Int)) (o9000_a.set t15_a.toNat true) o9001_af0 o9004_a).bind fun r1 =>
   cond (r1.1) (chk (decide (0 ≤ t15_a ∧ t15_a < (r1.2.2.2.length : Int))) (some (true, r1.2.1, r1.2.2.1, r1.2.2.2.set t15_a.toNat i0)))
   ((R78c_0 a78c N m (Sl78ca i0 p2 (w64 (t15_a + (1 : Int))) r1.2.1 r1.2.2.1 r1.2.2.2))))))))))))
   (some (false, o9000_a, o9001_af0, o9004_a)) := by kernel_rfl
theorem ql78ca (a78c : Int → (List Bool) → (List (List Int)) → (List Int) → Option (Bool × List Bool × List (List Int) × List Int)) (N : Nat) (i0 : Int) (p2 : List (List Int)) : ∀ (m : Nat) (t15_a : Int) (o9000_a : List Bool) (o9001_af0 : List (List Int)) (o9004_a : List Int), R78c_0 a78c N m (Sl78ca i0 p2 t15_a o9000_a o9001_af0 o9004_a) = l78ca a78c N i0 p2 m t15_a o9000_a o9001_af0 o9004_a
        | 0, _, _, _, _ => rfl
        | m + 1, t15_a, o9000_a, o9001_af0, o9004_a => by rw [wl78ca]; simp only [l78ca, ql78ca a78c N i0 p2 m]
def m78c (a78c : Int → (List Bool) → (List (List Int)) → (List Int) → Option (Bool × List Bool × List (List Int) × List Int)) (N : Nat) (i0 : Int) (p1 : List Bool) (p2 : List (List Int)) (p3 : List Int) : Option (Bool × List Bool × List (List Int) × List Int) :=
   chk (decide (0 ≤ i0 ∧ i0 < (p2.length : Int))) ((l78ca a78c N i0 p2 N (0 : Int) p1 p2 p3))
theorem wm78c (a78c : Int → (List Bool) → (List (List Int)) → (List Int) → Option (Bool × List Bool × List (List Int) × List Int)) (N : Nat) (i0 : Int) (p1 : List Bool) (p2 : List (List Int)) (p3 : List Int) : callF (E78c a78c) lv78c N en78c c78c (resOf Try.f78) 45 [.dv (.int .i64) i0, .row 9000, .ptr 9001 0 [0], .ptr 9002 0 [0], .ptr 9003 0 [0]] [(9000, .row (.bool) p1), (9001, .rcd [.dv (.sl (.sl (.int .i64))) p2]), (9002, .rcd [.row 9004]), (9003, .rcd [.fn 78 0 3 fun i => ([.ptr 9001 0 [0], .ptr 9002 0 [0], .ptr 9003 0 [0]] : List TV).getD i .any]), (9004, .row (.int .i64) p3)] dec78c = chk (decide (0 ≤ i0 ∧ i0 < (p2.length : Int))) ((R78c_0 a78c N N (Sl78ca i0 p2 (0 : Int) p1 p2 p3))) := by kernel_rfl
theorem k78c (a78c : Int → (List Bool) → (List (List Int)) → (List Int) → Option (Bool × List Bool × List (List Int) × List Int)) (N : Nat) (i0 : Int) (p1 : List Bool) (p2 : List (List Int)) (p3 : List Int) : callF (E78c a78c) lv78c N en78c c78c (resOf Try.f78) 45 [.dv (.int .i64) i0, .row 9000, .ptr 9001 0 [0], .ptr 9002 0 [0], .ptr 9003 0 [0]] [(9000, .row (.bool) p1), (9001, .rcd [.dv (.sl (.sl (.int .i64))) p2]), (9002, .rcd [.row 9004]), (9003, .rcd [.fn 78 0 3 fun i => ([.ptr 9001 0 [0], .ptr 9002 0 [0], .ptr 9003 0 [0]] : List TV).getD i .any]), (9004, .row (.int .i64) p3)] dec78c = m78c a78c N i0 p1 p2 p3 := by rw [wm78c]; simp only [m78c, ql78ca]
theorem ok78c (a78c : Int → (List Bool) → (List (List Int)) → (List Int) → Option (Bool × List Bool × List (List Int) × List Int)) (h78c : FnOk Try.prog 78 (F78c a78c)) (a : Int → (List Bool) → (List (List Int)) → (List Int) → Option (Bool × List Bool × List (List Int) × List Int)) (h : ∀ i0 p1 p2 p3 r, a i0 p1 p2 p3 = some r → (∃ N, m78c a78c N i0 p1 p2 p3 = some r)) : FnOk Try.prog 78 (F78c a) := by
 intro args Of x hx
 simp only [F78c] at hx
 split at hx
 ·rename_i i0 p1 p2 f_0 p3 heqc
  have hc0 := congrArg (fun c : List (List TV) => c.getD 0 []) heqc
  obtain ⟨N, hN⟩ := h _ _ _ _ _ hx
  refine HSpec.etaL (args := [.dv (.int .i64) i0, .row 9000, .ptr 9001 0 [0], .ptr 9002 0 [0], .ptr 9003 0 [0]]) (O := [(9000, .row (.bool) p1), (9001, .rcd [.dv (.sl (.sl (.int .i64))) p2]), (9002, .rcd [.row 9004]), (9003, .rcd [.fn 78 0 3 fun i => ([.ptr 9001 0 [0], .ptr 9002 0 [0], .ptr 9003 0 [0]] : List TV).getD i .any]), (9004, .row (.int .i64) p3)]) ⟨TV.sim_refl _, TV.sim_refl _, TV.sim_refl _, TV.sim_refl _, TV.sim_refl _, trivial⟩ ⟨rfl, TO.sim_refl _, rfl, TO.sim_refl _, rfl, TO.sim_refl _, rfl, TO.sim_rcd ⟨TV.sim_fn hc0, trivial⟩, rfl, TO.sim_refl _, trivial⟩ (liftedS (L := [(78, F78c a78c)]) (rc := nrc) (fz := nfz) (fn := Try.f78) (by kernel_rfl) (by kernel_rfl) (by kernel_rfl) (by kernel_rfl) rfl ?_ ((k78c a78c N _ _ _ _).trans hN) ?_)
  ·intro p hp; simp only [List.mem_cons, List.not_mem_nil, or_false] at hp; rcases hp with rfl; exact h78c
  ·intro l o hd
   simp only [dec78c] at hd
   split at hd
   ·rename_i heqd
    have hd0 := congrArg (fun c : List (List TV) => c.getD 0 []) heqd
    obtain rfl := oij hd; exact ⟨TV.sim_refl _, ⟨rfl, TO.sim_refl _, rfl, TO.sim_refl _, rfl, TO.sim_refl _, rfl, TO.sim_rcd ⟨TV.sim_symm (TV.sim_fn hd0), trivial⟩, rfl, TO.sim_refl _, trivial⟩⟩
   ·cases hd
 ·cases hx
def E48 (a77 : (List Int) → Int → Option (List Int)) (a78c : Int → (List Bool) → (List (List Int)) → (List Int) → Option (Bool × List Bool × List (List Int) × List Int)) : Env := mkE TI TY [(77, F77 a77), (78, F78c a78c)] (fun i => ([(3, [some (.arr 0 (.int .i64))])] : List (Nat × List (Option DT))).lookup i) nfz
noncomputable def c48 : Code := bodyOf Try.f48
def nm48_0 : Norm := ⟨[1, 3, 4, 5, 18, 19], [1, 3, 4, 16, 1121500], [], []⟩
def nm48_1 : Norm := ⟨[5, 29, 30, 31], [16, 1121500], [], []⟩
def lv48 : Nat → Option Norm := norms [(6, nm48_0), (11, nm48_1)]
def en48 : End := ⟨[], ⟨[], [], [(.slot 42, 1500, .int .i64)], []⟩⟩
def dec48 (l : List TV) (o : List (Nat × TO)) : Option (List Int) := match l, o with | [.row 1500], [(1500, .row (.int .i64) x0)] => some (x0) | _, _ => none
def Sl48b (o1121500_a : List Int) (t31_b : Int) (o16_b : List Int) : TS := ⟨slots 42 [(5, .row 16), (29, .row 1121500), (30, .dv (.int .i64) (o1121500_a.length : Int)), (31, .dv (.int .i64) t31_b)], [(16, .row (.int .i64) o16_b), (1121500, .row (.int .i64) o1121500_a)]⟩
def Sl48a (s0 : List (List Int)) (t19_a : Int) (o1_af0 : List (List Int)) (o1121500_a : List Int) : TS := ⟨slots 42 [(1, .ptr 1 0 [0]), (3, .ptr 3 0 [0]), (4, .ptr 4 0 [0]), (5, .row 16), (18, .dv (.int .i64) (s0.length : Int)), (19, .dv (.int .i64) t19_a)], [(1, .rcd [.dv (.sl (.sl (.int .i64))) o1_af0]), (3, .rcd [.row 1121500]), (4, .rcd [.fn 78 0 3 fun i => ([.ptr 1 0 [0], .ptr 3 0 [0], .ptr 4 0 [0]] : List TV).getD i .any]), (16, .row (.int .i64) (List.replicate ((s0.length : Int).toNat) (0 : Int))), (1121500, .row (.int .i64) o1121500_a)]⟩
noncomputable def K48_0 (a77 : (List Int) → Int → Option (List Int)) (a78c : Int → (List Bool) → (List (List Int)) → (List Int) → Option (Bool × List Bool × List (List Int) × List Int)) (N : Nat) : Kont (List Int) := kont (E48 a77 a78c) lv48 N c48 [1, 1, 1, 1, 1, 0, 1, 0] (fin TI en48 (resOf Try.f48) dec48)
noncomputable def R48_0 (a77 : (List Int) → Int → Option (List Int)) (a78c : Int → (List Bool) → (List (List Int)) → (List Int) → Option (Bool × List Bool × List (List Int) × List Int)) (N : Nat) (m : Nat) : TS → Option (List Int) := loopK (den (E48 a77 a78c) lv48 N (sub c48 [1, 1, 1, 1, 1, 0, 1, 0, 0])) (TS.norm nm48_0) (K48_0 a77 a78c N) m
noncomputable def K48_1 (a77 : (List Int) → Int → Option (List Int)) (a78c : Int → (List Bool) → (List (List Int)) → (List Int) → Option (Bool × List Bool × List (List Int) × List Int)) (N : Nat) : Kont (List Int) := kont (E48 a77 a78c) lv48 N c48 [1, 1, 1, 1, 1, 1, 0, 1, 0] (fin TI en48 (resOf Try.f48) dec48)
noncomputable def R48_1 (a77 : (List Int) → Int → Option (List Int)) (a78c : Int → (List Bool) → (List (List Int)) → (List Int) → Option (Bool × List Bool × List (List Int) × List Int)) (N : Nat) (m : Nat) : TS → Option (List Int) := loopK (den (E48 a77 a78c) lv48 N (sub c48 [1, 1, 1, 1, 1, 1, 0, 1, 0, 0])) (TS.norm nm48_1) (K48_1 a77 a78c N) m
def l48b (a77 : (List Int) → Int → Option (List Int)) (a78c : Int → (List Bool) → (List (List Int)) → (List Int) → Option (Bool × List Bool × List (List Int) × List Int)) (N : Nat) (o1121500_a : List Int) : Nat → Int → (List Int) → Option (List Int)
 | 0, _, _ => none
 | n + 1, t31_b, o16_b => cond (decide (t31_b < (o1121500_a.length : Int))) (chk (decide (0 ≤ t31_b ∧ t31_b < (o1121500_a.length : Int))) (chk (decide (0 ≤ o1121500_a.getD t31_b.toNat (0 : Int) ∧ o1121500_a.getD t31_b.toNat (0 : Int) < (o16_b.length : Int))) ((l48b a77 a78c N o1121500_a n (w64 (t31_b + (1 : Int))) (o16_b.set ((o1121500_a.getD t31_b.toNat (0 : Int)).toNat) t31_b)))))
   (some o16_b)
theorem wl48b (a77 : (List Int) → Int → Option (List Int)) (a78c : Int → (List Bool) → (List (List Int)) → (List Int) → Option (Bool × List Bool × List (List Int) × List Int)) (N : Nat) (o1121500_a : List Int) (m : Nat) (t31_b : Int) (o16_b : List Int) : R48_1 a77 a78c N (m + 1) (Sl48b o1121500_a t31_b o16_b) = cond (decide (t31_b < (o1121500_a.length : Int))) (chk (decide (0 ≤ t31_b ∧ t31_b < (o1121500_a.length : Int))) (chk (decide (0 ≤ o1121500_a.getD t31_b.toNat (0 : Int) ∧ o1121500_a.getD t31_b.toNat (0 : Int) < (o16_b.length : Int))) ((R48_1 a77 a78c N m (Sl48b o1121500_a (w64 (t31_b + (1 : Int))) (o16_b.set ((o1121500_a.getD t31_b.toNat (0 : Int)).toNat) t31_b))))))
   (some o16_b) := by kernel_rfl
theorem ql48b (a77 : (List Int) → Int → Option (List Int)) (a78c : Int → (List Bool) → (List (List Int)) → (List Int) → Option (Bool × List Bool × List (List Int) × List Int)) (N : Nat) (o1121500_a : List Int) : ∀ (m : Nat) (t31_b : Int) (o16_b : List Int), R48_1 a77 a78c N m (Sl48b o1121500_a t31_b o16_b) = l48b a77 a78c N o1121500_a m t31_b o16_b
        | 0, _, _ => rfl
        | m + 1, t31_b, o16_b => by rw [wl48b]; simp only [l48b, ql48b a77 a78c N o1121500_a m]
def l48a (a77 : (List Int) → Int → Option (List Int)) (a78c : Int → (List Bool) → (List (List Int)) → (List Int) → Option (Bool × List Bool × List (List Int) × List Int)) (N : Nat) (s0 : List (List Int)) : Nat → Int → (List (List Int)) → (List Int) → Option (List Int)
 | 0, _, _, _ => none
 | n + 1, t19_a, o1_af0, o1121500_a => cond (decide (t19_a < (s0.length : Int))) (chk (mkOk (o1_af0.length : Int) (o1_af0.length : Int) 1) ((a78c t19_a (List.replicate ((o1_af0.length : Int).toNat) false) o1_af0 o1121500_a).bind fun r2 =>
   (l48a a77 a78c N s0 n (w64 (t19_a + (1 : Int))) r2.2.2.1 r2.2.2.2)))
   ((l48b a77 a78c N o1121500_a N (0 : Int) (List.replicate ((s0.length : Int).toNat) (0 : Int))))
theorem wl48a (a77 : (List Int) → Int → Option (List Int)) (a78c : Int → (List Bool) → (List (List Int)) → (List Int) → Option (Bool × List Bool × List (List Int) × List Int)) (N : Nat) (s0 : List (List Int)) (m : Nat) (t19_a : Int) (o1_af0 : List (List Int)) (o1121500_a : List Int) : R48_0 a77 a78c N (m + 1) (Sl48a s0 t19_a o1_af0 o1121500_a) = cond (decide (t19_a < (s0.length : Int))) (chk (mkOk (o1_af0.length : Int) (o1_af0.length : Int) 1) ((a78c t19_a (List.replicate ((o1_af0.length : Int).toNat) false) o1_af0 o1121500_a).bind fun r2 =>
   (R48_0 a77 a78c N m (Sl48a s0 (w64 (t19_a + (1 : Int))) r2.2.2.1 r2.2.2.2))))
   ((R48_1 a77 a78c N N (Sl48b o1121500_a (0 : Int) (List.replicate ((s0.length : Int).toNat) (0 : Int))))) := by kernel_rfl
theorem ql48a (a77 : (List Int) → Int → Option (List Int)) (a78c : Int → (List Bool) → (List (List Int)) → (List Int) → Option (Bool × List Bool × List (List Int) × List Int)) (N : Nat) (s0 : List (List Int)) : ∀ (m : Nat) (t19_a : Int) (o1_af0 : List (List Int)) (o1121500_a : List Int), R48_0 a77 a78c N m (Sl48a s0 t19_a o1_af0 o1121500_a) = l48a a77 a78c N s0 m t19_a o1_af0 o1121500_a
        | 0, _, _, _ => rfl
        | m + 1, t19_a, o1_af0, o1121500_a => by rw [wl48a]; simp only [l48a, ql48b, ql48a a77 a78c N s0 m]
def m48 (a77 : (List Int) → Int → Option (List Int)) (a78c : Int → (List Bool) → (List (List Int)) → (List Int) → Option (Bool × List Bool × List (List Int) × List Int)) (N : Nat) (s0 : List (List Int)) : Option (List Int) :=
   (a77 ([(-1 : Int)] : List Int) (s0.length : Int)).bind fun r1 =>
   chk (mkOk (s0.length : Int) (s0.length : Int) 8) ((l48a a77 a78c N s0 N (0 : Int) s0 r1))
theorem wm48 (a77 : (List Int) → Int → Option (List Int)) (a78c : Int → (List Bool) → (List (List Int)) → (List Int) → Option (Bool × List Bool × List (List Int) × List Int)) (N : Nat) (s0 : List (List Int)) : callF (E48 a77 a78c) lv48 N en48 c48 (resOf Try.f48) 41 [.dv (.sl (.sl (.int .i64))) s0] [] dec48 = (a77 ([(-1 : Int)] : List Int) (s0.length : Int)).bind fun r1 =>
   chk (mkOk (s0.length : Int) (s0.length : Int) 8) ((R48_0 a77 a78c N N (Sl48a s0 (0 : Int) s0 r1))) := by kernel_rfl
theorem k48 (a77 : (List Int) → Int → Option (List Int)) (a78c : Int → (List Bool) → (List (List Int)) → (List Int) → Option (Bool × List Bool × List (List Int) × List Int)) (N : Nat) (s0 : List (List Int)) : callF (E48 a77 a78c) lv48 N en48 c48 (resOf Try.f48) 41 [.dv (.sl (.sl (.int .i64))) s0] [] dec48 = m48 a77 a78c N s0 := by rw [wm48]; simp only [m48, ql48a]
theorem ok48 (a77 : (List Int) → Int → Option (List Int)) (a78c : Int → (List Bool) → (List (List Int)) → (List Int) → Option (Bool × List Bool × List (List Int) × List Int)) (h77 : FnOk Try.prog 77 (F77 a77)) (h78c : FnOk Try.prog 78 (F78c a78c)) (a : (List (List Int)) → Option (List Int)) (h : ∀ s0 r, a s0 = some r → (∃ N, m48 a77 a78c N s0 = some r)) : FnOk Try.prog 48 (F48 a) := by
 intro args Of x hx
 simp only [F48] at hx
 split at hx
 ·rename_i s0
  obtain ⟨N, hN⟩ := h _ _ hx
  refine lifted (L := [(77, F77 a77), (78, F78c a78c)]) (rc := (fun i => ([(3, [some (.arr 0 (.int .i64))])] : List (Nat × List (Option DT))).lookup i)) (fz := nfz) (fn := Try.f48) (by kernel_rfl) (by kernel_rfl) (by kernel_rfl) (by kernel_rfl) rfl ?_ ((k48 a77 a78c N _).trans hN) ?_
  ·intro p hp; simp only [List.mem_cons, List.not_mem_nil, or_false] at hp; rcases hp with rfl | rfl
   ·exact h77
   ·exact h78c
  ·intro l o hd
   simp only [dec48] at hd
   split at hd
   ·obtain rfl := oij hd; exact ⟨rfl, rfl⟩
   ·cases hd
 ·cases hx
def E18 (a47 : (List (List Int)) → Int → Int → Option (List (List Int))) (a48 : (List (List Int)) → Option (List Int)) (a7 : (List (List Int)) → Int → Option (Int × Int)) : Env := mkE TI TY [(47, F47 a47), (48, F48 a48), (7, F7 a7)] (fun i => ([(14, [some (.int .i64), none]), (56, [some (.int .i64), none])] : List (Nat × List (Option DT))).lookup i) nfz
noncomputable def c18 : Code := bodyOf Try.f18
def nm18_0 : Norm := ⟨[0, 6, 8], [1291500], [(.slot 9, 1009, .pair (.int .i64) (.pair (.sl (.int .i64)) (.unit)))], []⟩
def nm18_1 : Norm := ⟨[0, 6, 8, 9, 10, 11, 35, 36, 37], [1291500, 1009, 1331500], [], []⟩
def nm18_2 : Norm := ⟨[0, 6, 8, 9, 11, 14, 57, 58, 59], [1291500, 1009, 14, 1331500, 55], [], []⟩
def lv18 : Nat → Option Norm := norms [(6, nm18_0), (10, nm18_1), (16, nm18_2)]
def en18 : End := ⟨[(102, .sl (.pair (.int .i64) (.pair (.sl (.int .i64)) (.unit))))], ⟨[102, 103], [], [], []⟩⟩
def dec18 (l : List TV) (o : List (Nat × TO)) : Option (List (Int × List Int × Unit) × Int) := match l, o with | [.dv (.sl (.pair (.int .i64) (.pair (.sl (.int .i64)) (.unit)))) x0, .dv (.int .i64) x1], [] => some (x0, x1) | _, _ => none
def Sl18c (work0 : List (List Int)) (left6_a : Int) (out9_a : List (Int × List Int × Unit)) (r3 : List Int) (n11_b : Int) (t59_c : Int) (o1291500_c : List (List Int)) (o55_c : List Int) : TS := ⟨slots 102 [(0, .dv (.sl (.sl (.int .i64))) work0), (6, .dv (.int .i64) left6_a), (8, .row 1291500), (9, .row 1009), (11, .dv (.int .i64) n11_b), (14, .ptr 14 0 []), (57, .row 1331500), (58, .dv (.int .i64) (r3.length : Int)), (59, .dv (.int .i64) t59_c)], [(1291500, .mat (.int .i64) o1291500_c none), (1009, .row (.pair (.int .i64) (.pair (.sl (.int .i64)) (.unit))) out9_a), (14, .rcd [.dv (.int .i64) n11_b, .row 55]), (1331500, .row (.int .i64) r3), (55, .row (.int .i64) o55_c)]⟩
def Sl18b (work0 : List (List Int)) (left6_a : Int) (out9_a : List (Int × List Int × Unit)) (r3 : List Int) (n11_b : Int) (t37_b : Int) (o1291500_b : List (List Int)) : TS := ⟨slots 102 [(0, .dv (.sl (.sl (.int .i64))) work0), (6, .dv (.int .i64) left6_a), (8, .row 1291500), (9, .row 1009), (10, .row 1331500), (11, .dv (.int .i64) n11_b), (35, .row 1331500), (36, .dv (.int .i64) (r3.length : Int)), (37, .dv (.int .i64) t37_b)], [(1291500, .mat (.int .i64) o1291500_b none), (1009, .row (.pair (.int .i64) (.pair (.sl (.int .i64)) (.unit))) out9_a), (1331500, .row (.int .i64) r3)]⟩
def Sl18a (work0 : List (List Int)) (left6_a : Int) (out9_a : List (Int × List Int × Unit)) (o1291500_a : List (List Int)) : TS := ⟨slots 102 [(0, .dv (.sl (.sl (.int .i64))) work0), (6, .dv (.int .i64) left6_a), (8, .row 1291500), (9, .row 1009)], [(1009, .row (.pair (.int .i64) (.pair (.sl (.int .i64)) (.unit))) out9_a), (1291500, .mat (.int .i64) o1291500_a none)]⟩
noncomputable def K18_0 (a47 : (List (List Int)) → Int → Int → Option (List (List Int))) (a48 : (List (List Int)) → Option (List Int)) (a7 : (List (List Int)) → Int → Option (Int × Int)) (N : Nat) : Kont (List (Int × List Int × Unit) × Int) := kont (E18 a47 a48 a7) lv18 N c18 [1, 1, 1, 1, 1, 0, 0] (fin TI en18 (resOf Try.f18) dec18)
noncomputable def R18_0 (a47 : (List (List Int)) → Int → Int → Option (List (List Int))) (a48 : (List (List Int)) → Option (List Int)) (a7 : (List (List Int)) → Int → Option (Int × Int)) (N : Nat) (m : Nat) : TS → Option (List (Int × List Int × Unit) × Int) := loopK (den (E18 a47 a48 a7) lv18 N (sub c18 [1, 1, 1, 1, 1, 0, 0, 0])) (TS.norm nm18_0) (K18_0 a47 a48 a7 N) m
noncomputable def K18_1 (a47 : (List (List Int)) → Int → Int → Option (List (List Int))) (a48 : (List (List Int)) → Option (List Int)) (a7 : (List (List Int)) → Int → Option (Int × Int)) (N : Nat) (T18_0 : TS → Option (List (Int × List Int × Unit) × Int)) : Kont (List (Int × List Int × Unit) × Int) := kont (E18 a47 a48 a7) lv18 N (sub c18 [1, 1, 1, 1, 1, 0, 0, 0]) [1, 0, 1, 1, 0, 1, 0] (kloop (TS.norm nm18_0) (K18_0 a47 a48 a7 N) T18_0)
noncomputable def R18_1 (a47 : (List (List Int)) → Int → Int → Option (List (List Int))) (a48 : (List (List Int)) → Option (List Int)) (a7 : (List (List Int)) → Int → Option (Int × Int)) (N : Nat) (T18_0 : TS → Option (List (Int × List Int × Unit) × Int)) (m : Nat) : TS → Option (List (Int × List Int × Unit) × Int) := loopK (den (E18 a47 a48 a7) lv18 N (sub c18 [1, 1, 1, 1, 1, 0, 0, 0, 1, 0, 1, 1, 0, 1, 0, 0])) (TS.norm nm18_1) (K18_1 a47 a48 a7 N T18_0) m
noncomputable def K18_2 (a47 : (List (List Int)) → Int → Int → Option (List (List Int))) (a48 : (List (List Int)) → Option (List Int)) (a7 : (List (List Int)) → Int → Option (Int × Int)) (N : Nat) (T18_0 : TS → Option (List (Int × List Int × Unit) × Int)) : Kont (List (Int × List Int × Unit) × Int) := kont (E18 a47 a48 a7) lv18 N (sub c18 [1, 1, 1, 1, 1, 0, 0, 0]) [1, 0, 1, 1, 1, 1, 0, 1, 0] (kloop (TS.norm nm18_0) (K18_0 a47 a48 a7 N) T18_0)
noncomputable def R18_2 (a47 : (List (List Int)) → Int → Int → Option (List (List Int))) (a48 : (List (List Int)) → Option (List Int)) (a7 : (List (List Int)) → Int → Option (Int × Int)) (N : Nat) (T18_0 : TS → Option (List (Int × List Int × Unit) × Int)) (m : Nat) : TS → Option (List (Int × List Int × Unit) × Int) := loopK (den (E18 a47 a48 a7) lv18 N (sub c18 [1, 1, 1, 1, 1, 0, 0, 0, 1, 0, 1, 1, 1, 1, 0, 1, 0, 0])) (TS.norm nm18_2) (K18_2 a47 a48 a7 N T18_0) m
def l18c (a47 : (List (List Int)) → Int → Int → Option (List (List Int))) (a48 : (List (List Int)) → Option (List Int)) (a7 : (List (List Int)) → Int → Option (Int × Int)) (N : Nat) (work0 : List (List Int)) (left6_a : Int) (out9_a : List (Int × List Int × Unit)) (r3 : List Int) (n11_b : Int) (rec_l18a : Int → (List (Int × List Int × Unit)) → (List (List Int)) → Option (List (Int × List Int × Unit) × Int)) : Nat → Int → (List (List Int)) → (List Int) → Option (List (Int × List Int × Unit) × Int)
 | 0, _, _, _ => none
 | n + 1, t59_c, o1291500_c, o55_c => cond (decide (t59_c < (r3.length : Int))) (chk (decide (0 ≤ t59_c ∧ t59_c < (r3.length : Int))) (chk (decide (0 ≤ t59_c ∧ t59_c < (o1291500_c.length : Int))) (chk (decide (0 ≤ r3.getD t59_c.toNat (0 : Int) ∧ r3.getD t59_c.toNat (0 : Int) < ((o1291500_c.getD t59_c.toNat ([] : List Int)).length : Int))) (chk (decide (0 ≤ r3.getD t59_c.toNat (0 : Int) ∧ r3.getD t59_c.toNat (0 : Int) < ((o1291500_c.getD t59_c.toNat ([] : List Int)).length : Int))) (cond (decide (t59_c < (work0.length : Int))) (chk (decide (0 ≤ t59_c ∧ t59_c < (o55_c.length : Int))) (chk (decide (0 ≤ (0 : Int) ∧ (0 : Int) < (work0.length : Int))) (cond (decide ((r3.getD t59_c.toNat (0 : Int)) ≥ ((work0.getD 0 ([] : List Int)).length : Int))) (chk (decide (0 ≤ t59_c ∧ t59_c < ((o55_c.set t59_c.toNat (r3.getD t59_c.toNat (0 : Int))).length : Int))) ((l18c a47 a48 a7 N work0 left6_a out9_a r3 n11_b rec_l18a n (w64 (t59_c + (1 : Int))) (o1291500_c.set t59_c.toNat ((o1291500_c.getD t59_c.toNat ([] : List Int)).set ((r3.getD t59_c.toNat (0 : Int)).toNat) (w64 (((o1291500_c.getD t59_c.toNat ([] : List Int)).getD ((r3.getD t59_c.toNat (0 : Int)).toNat) (0 : Int)) - n11_b)))) ((o55_c.set t59_c.toNat (r3.getD t59_c.toNat (0 : Int))).set t59_c.toNat (-1 : Int)))))
   ((l18c a47 a48 a7 N work0 left6_a out9_a r3 n11_b rec_l18a n (w64 (t59_c + (1 : Int))) (o1291500_c.set t59_c.toNat ((o1291500_c.getD t59_c.toNat ([] : List Int)).set ((r3.getD t59_c.toNat (0 : Int)).toNat) (w64 (((o1291500_c.getD t59_c.toNat ([] : List Int)).getD ((r3.getD t59_c.toNat (0 : Int)).toNat) (0 : Int)) - n11_b)))) (o55_c.set t59_c.toNat (r3.getD t59_c.toNat (0 : Int))))))))
   ((l18c a47 a48 a7 N work0 left6_a out9_a r3 n11_b rec_l18a n (w64 (t59_c + (1 : Int))) (o1291500_c.set t59_c.toNat ((o1291500_c.getD t59_c.toNat ([] : List Int)).set ((r3.getD t59_c.toNat (0 : Int)).toNat) (w64 (((o1291500_c.getD t59_c.toNat ([] : List Int)).getD ((r3.getD t59_c.toNat (0 : Int)).toNat) (0 : Int)) - n11_b)))) o55_c)))))))
   (chk (small (out9_a.length + 1) 32) ((rec_l18a (w64 (left6_a - n11_b)) (out9_a ++ ([(n11_b, (o55_c, ()))] : List (Int × List Int × Unit))) o1291500_c)))
theorem wl18c (a47 : (List (List Int)) → Int → Int → Option (List (List Int))) (a48 : (List (List Int)) → Option (List Int)) (a7 : (List (List Int)) → Int → Option (Int × Int)) (N : Nat) (work0 : List (List Int)) (left6_a : Int) (out9_a : List (Int × List Int × Unit)) (r3 : List Int) (n11_b : Int) (T18_0 : TS → Option (List (Int × List Int × Unit) × Int)) (m : Nat) (t59_c : Int) (o1291500_c : List (List Int)) (o55_c : List Int) : R18_2 a47 a48 a7 N T18_0 (m + 1) (Sl18c work0 left6_a out9_a r3 n11_b t59_c o1291500_c o55_c) = cond (decide (t59_c < (r3.length : Int))) (chk (decide (0 ≤ t59_c ∧ t59_c < (r3.length : Int))) (chk (decide (0 ≤ t59_c ∧ t59_c < (o1291500_c.length : Int))) (chk (decide (0 ≤ r3.getD t59_c.toNat (0 : Int) ∧ r3.getD t59_c.toNat (0 : Int) < ((o1291500_c.getD t59_c.toNat ([] : List Int)).length : Int))) (chk (decide (0 ≤ r3.getD t59_c.toNat (0 : Int) ∧ r3.getD t59_c.toNat (0 : Int) < ((o1291500_c.getD t59_c.toNat ([] : List Int)).length : Int))) (cond (decide (t59_c < (work0.length : Int))) (chk (decide (0 ≤ t59_c ∧ t59_c < (o55_c.length : Int))) (chk (decide (0 ≤ (0 : Int) ∧ (0 : Int) < (work0.length : Int))) (cond (decide ((r3.getD t59_c.toNat (0 : Int)) ≥ ((work0.getD 0 ([] : List Int)).length : Int))) (chk (decide (0 ≤ t59_c ∧ t59_c < ((o55_c.set t59_c.toNat (r3.getD t59_c.toNat (0 : Int))).length : Int))) ((R18_2 a47 a48 a7 N T18_0 m (Sl18c work0 left6_a out9_a r3 n11_b (w64 (t59_c + (1 : Int))) (o1291500_c.set t59_c.toNat ((o1291500_c.getD t59_c.toNat ([] : List Int)).set ((r3.getD t59_c.toNat (0 : Int)).toNat) (w64 (((o1291500_c.getD t59_c.toNat ([] : List Int)).getD ((r3.getD t59_c.toNat (0 : Int)).toNat) (0 : Int)) - n11_b)))) ((o55_c.set t59_c.toNat (r3.getD t59_c.toNat (0 : Int))).set t59_c.toNat (-1 : Int))))))
   ((R18_2 a47 a48 a7 N T18_0 m (Sl18c work0 left6_a out9_a r3 n11_b (w64 (t59_c + (1 : Int))) (o1291500_c.set t59_c.toNat ((o1291500_c.getD t59_c.toNat ([] : List Int)).set ((r3.getD t59_c.toNat (0 : Int)).toNat) (w64 (((o1291500_c.getD t59_c.toNat ([] : List Int)).getD ((r3.getD t59_c.toNat (0 : Int)).toNat) (0 : Int)) - n11_b)))) (o55_c.set t59_c.toNat (r3.getD t59_c.toNat (0 : Int)))))))))
   ((R18_2 a47 a48 a7 N T18_0 m (Sl18c work0 left6_a out9_a r3 n11_b (w64 (t59_c + (1 : Int))) (o1291500_c.set t59_c.toNat ((o1291500_c.getD t59_c.toNat ([] : List Int)).set ((r3.getD t59_c.toNat (0 : Int)).toNat) (w64 (((o1291500_c.getD t59_c.toNat ([] : List Int)).getD ((r3.getD t59_c.toNat (0 : Int)).toNat) (0 : Int)) - n11_b)))) o55_c))))))))
   (chk (small (out9_a.length + 1) 32) ((T18_0 (Sl18a work0 (w64 (left6_a - n11_b)) (out9_a ++ ([(n11_b, (o55_c, ()))] : List (Int × List Int × Unit))) o1291500_c)))) := by kernel_rfl
theorem ql18c (a47 : (List (List Int)) → Int → Int → Option (List (List Int))) (a48 : (List (List Int)) → Option (List Int)) (a7 : (List (List Int)) → Int → Option (Int × Int)) (N : Nat) (work0 : List (List Int)) (left6_a : Int) (out9_a : List (Int × List Int × Unit)) (r3 : List Int) (n11_b : Int) (T18_0 : TS → Option (List (Int × List Int × Unit) × Int)) : ∀ (m : Nat) (t59_c : Int) (o1291500_c : List (List Int)) (o55_c : List Int), R18_2 a47 a48 a7 N T18_0 m (Sl18c work0 left6_a out9_a r3 n11_b t59_c o1291500_c o55_c) = l18c a47 a48 a7 N work0 left6_a out9_a r3 n11_b (fun y0 y1 y2 => T18_0 (Sl18a work0 y0 y1 y2)) m t59_c o1291500_c o55_c
        | 0, _, _, _ => rfl
        | m + 1, t59_c, o1291500_c, o55_c => by rw [wl18c]; simp only [l18c, ql18c a47 a48 a7 N work0 left6_a out9_a r3 n11_b T18_0 m]
def l18b (a47 : (List (List Int)) → Int → Int → Option (List (List Int))) (a48 : (List (List Int)) → Option (List Int)) (a7 : (List (List Int)) → Int → Option (Int × Int)) (N : Nat) (work0 : List (List Int)) (left6_a : Int) (out9_a : List (Int × List Int × Unit)) (r3 : List Int) (rec_l18a : Int → (List (Int × List Int × Unit)) → (List (List Int)) → Option (List (Int × List Int × Unit) × Int)) : Nat → Int → Int → (List (List Int)) → Option (List (Int × List Int × Unit) × Int)
 | 0, _, _, _ => none
 | n + 1, n11_b, t37_b, o1291500_b => cond (decide (t37_b < (r3.length : Int))) (chk (decide (0 ≤ t37_b ∧ t37_b < (r3.length : Int))) (chk (decide (0 ≤ t37_b ∧ t37_b < (o1291500_b.length : Int))) (chk (decide (0 ≤ r3.getD t37_b.toNat (0 : Int) ∧ r3.getD t37_b.toNat (0 : Int) < ((o1291500_b.getD t37_b.toNat ([] : List Int)).length : Int))) ((l18b a47 a48 a7 N work0 left6_a out9_a r3 rec_l18a n (imin n11_b ((o1291500_b.getD t37_b.toNat ([] : List Int)).getD ((r3.getD t37_b.toNat (0 : Int)).toNat) (0 : Int))) (w64 (t37_b + (1 : Int))) (o1291500_b.set t37_b.toNat (o1291500_b.getD t37_b.toNat ([] : List Int))))))))
   (chk (mkOk (work0.length : Int) (work0.length : Int) 8) ((l18c a47 a48 a7 N work0 left6_a out9_a r3 n11_b rec_l18a N (0 : Int) o1291500_b (List.replicate ((work0.length : Int).toNat) (0 : Int)))))
theorem wl18b (a47 : (List (List Int)) → Int → Int → Option (List (List Int))) (a48 : (List (List Int)) → Option (List Int)) (a7 : (List (List Int)) → Int → Option (Int × Int)) (N : Nat) (work0 : List (List Int)) (left6_a : Int) (out9_a : List (Int × List Int × Unit)) (r3 : List Int) (T18_0 : TS → Option (List (Int × List Int × Unit) × Int)) (m : Nat) (n11_b : Int) (t37_b : Int) (o1291500_b : List (List Int)) : R18_1 a47 a48 a7 N T18_0 (m + 1) (Sl18b work0 left6_a out9_a r3 n11_b t37_b o1291500_b) = cond (decide (t37_b < (r3.length : Int))) (chk (decide (0 ≤ t37_b ∧ t37_b < (r3.length : Int))) (chk (decide (0 ≤ t37_b ∧ t37_b < (o1291500_b.length : Int))) (chk (decide (0 ≤ r3.getD t37_b.toNat (0 : Int) ∧ r3.getD t37_b.toNat (0 : Int) < ((o1291500_b.getD t37_b.toNat ([] : List Int)).length : Int))) ((R18_1 a47 a48 a7 N T18_0 m (Sl18b work0 left6_a out9_a r3 (imin n11_b ((o1291500_b.getD t37_b.toNat ([] : List Int)).getD ((r3.getD t37_b.toNat (0 : Int)).toNat) (0 : Int))) (w64 (t37_b + (1 : Int))) (o1291500_b.set t37_b.toNat (o1291500_b.getD t37_b.toNat ([] : List Int)))))))))
   (chk (mkOk (work0.length : Int) (work0.length : Int) 8) ((R18_2 a47 a48 a7 N T18_0 N (Sl18c work0 left6_a out9_a r3 n11_b (0 : Int) o1291500_b (List.replicate ((work0.length : Int).toNat) (0 : Int)))))) := by kernel_rfl
theorem ql18b (a47 : (List (List Int)) → Int → Int → Option (List (List Int))) (a48 : (List (List Int)) → Option (List Int)) (a7 : (List (List Int)) → Int → Option (Int × Int)) (N : Nat) (work0 : List (List Int)) (left6_a : Int) (out9_a : List (Int × List Int × Unit)) (r3 : List Int) (T18_0 : TS → Option (List (Int × List Int × Unit) × Int)) : ∀ (m : Nat) (n11_b : Int) (t37_b : Int) (o1291500_b : List (List Int)), R18_1 a47 a48 a7 N T18_0 m (Sl18b work0 left6_a out9_a r3 n11_b t37_b o1291500_b) = l18b a47 a48 a7 N work0 left6_a out9_a r3 (fun y0 y1 y2 => T18_0 (Sl18a work0 y0 y1 y2)) m n11_b t37_b o1291500_b
        | 0, _, _, _ => rfl
        | m + 1, n11_b, t37_b, o1291500_b => by rw [wl18b]; simp only [l18b, ql18c, ql18b a47 a48 a7 N work0 left6_a out9_a r3 T18_0 m]
def l18a (a47 : (List (List Int)) → Int → Int → Option (List (List Int))) (a48 : (List (List Int)) → Option (List Int)) (a7 : (List (List Int)) → Int → Option (Int × Int)) (N : Nat) (work0 : List (List Int)) : Nat → Int → (List (Int × List Int × Unit)) → (List (List Int)) → Option (List (Int × List Int × Unit) × Int)
 | 0, _, _, _ => none
 | n + 1, left6_a, out9_a, o1291500_a => cond (decide (left6_a > (0 : Int))) ((a48 o1291500_a).bind fun r3 =>
   (l18b a47 a48 a7 N work0 left6_a out9_a r3 (fun y0 y1 y2 => (l18a a47 a48 a7 N work0 n y0 y1 y2)) N left6_a (0 : Int) o1291500_a))
   (some (out9_a, (0 : Int)))
theorem wl18a (a47 : (List (List Int)) → Int → Int → Option (List (List Int))) (a48 : (List (List Int)) → Option (List Int)) (a7 : (List (List Int)) → Int → Option (Int × Int)) (N : Nat) (work0 : List (List Int)) (m : Nat) (left6_a : Int) (out9_a : List (Int × List Int × Unit)) (o1291500_a : List (List Int)) : R18_0 a47 a48 a7 N (m + 1) (Sl18a work0 left6_a out9_a o1291500_a) = cond (decide (left6_a > (0 : Int))) ((a48 o1291500_a).bind fun r3 =>
   (R18_1 a47 a48 a7 N (R18_0 a47 a48 a7 N m) N (Sl18b work0 left6_a out9_a r3 left6_a (0 : Int) o1291500_a)))
   (some (out9_a, (0 : Int))) := by kernel_rfl
theorem ql18a (a47 : (List (List Int)) → Int → Int → Option (List (List Int))) (a48 : (List (List Int)) → Option (List Int)) (a7 : (List (List Int)) → Int → Option (Int × Int)) (N : Nat) (work0 : List (List Int)) : ∀ (m : Nat) (left6_a : Int) (out9_a : List (Int × List Int × Unit)) (o1291500_a : List (List Int)), R18_0 a47 a48 a7 N m (Sl18a work0 left6_a out9_a o1291500_a) = l18a a47 a48 a7 N work0 m left6_a out9_a o1291500_a
        | 0, _, _, _ => rfl
        | m + 1, left6_a, out9_a, o1291500_a => by rw [wl18a]; simp only [l18a, ql18b, ql18a a47 a48 a7 N work0 m]
def m18 (a47 : (List (List Int)) → Int → Int → Option (List (List Int))) (a48 : (List (List Int)) → Option (List Int)) (a7 : (List (List Int)) → Int → Option (Int × Int)) (N : Nat) (work0 : List (List Int)) (seats1 : Int) : Option (List (Int × List Int × Unit) × Int) :=
   (a7 work0 seats1).bind fun r1 =>
   cond (r1.2 != (0 : Int)) (some (([] : List (Int × List Int × Unit)), r1.2))
   ((a47 work0 seats1 r1.1).bind fun r2 =>
   (l18a a47 a48 a7 N work0 N r1.1 ([] : List (Int × List Int × Unit)) r2))
theorem wm18 (a47 : (List (List Int)) → Int → Int → Option (List (List Int))) (a48 : (List (List Int)) → Option (List Int)) (a7 : (List (List Int)) → Int → Option (Int × Int)) (N : Nat) (work0 : List (List Int)) (seats1 : Int) : callF (E18 a47 a48 a7) lv18 N en18 c18 (resOf Try.f18) 100 [.dv (.sl (.sl (.int .i64))) work0, .dv (.int .i64) seats1] [] dec18 = (a7 work0 seats1).bind fun r1 =>
   cond (r1.2 != (0 : Int)) (some (([] : List (Int × List Int × Unit)), r1.2))
   ((a47 work0 seats1 r1.1).bind fun r2 =>
   (R18_0 a47 a48 a7 N N (Sl18a work0 r1.1 ([] : List (Int × List Int × Unit)) r2))) := by kernel_rfl
theorem k18 (a47 : (List (List Int)) → Int → Int → Option (List (List Int))) (a48 : (List (List Int)) → Option (List Int)) (a7 : (List (List Int)) → Int → Option (Int × Int)) (N : Nat) (work0 : List (List Int)) (seats1 : Int) : callF (E18 a47 a48 a7) lv18 N en18 c18 (resOf Try.f18) 100 [.dv (.sl (.sl (.int .i64))) work0, .dv (.int .i64) seats1] [] dec18 = m18 a47 a48 a7 N work0 seats1 := by rw [wm18]; simp only [m18, ql18a]
theorem ok18 (a47 : (List (List Int)) → Int → Int → Option (List (List Int))) (a48 : (List (List Int)) → Option (List Int)) (a7 : (List (List Int)) → Int → Option (Int × Int)) (h47 : FnOk Try.prog 47 (F47 a47)) (h48 : FnOk Try.prog 48 (F48 a48)) (h7 : FnOk Try.prog 7 (F7 a7)) (a : (List (List Int)) → Int → Option (List (Int × List Int × Unit) × Int)) (h : ∀ work0 seats1 r, a work0 seats1 = some r → (∃ N, m18 a47 a48 a7 N work0 seats1 = some r)) : FnOk Try.prog 18 (F18 a) := by
 intro args Of x hx
 simp only [F18] at hx
 split at hx
 ·rename_i work0 seats1
  obtain ⟨N, hN⟩ := h _ _ _ hx
  refine lifted (L := [(47, F47 a47), (48, F48 a48), (7, F7 a7)]) (rc := (fun i => ([(14, [some (.int .i64), none]), (56, [some (.int .i64), none])] : List (Nat × List (Option DT))).lookup i)) (fz := nfz) (fn := Try.f18) (by kernel_rfl) (by kernel_rfl) (by kernel_rfl) (by kernel_rfl) rfl ?_ ((k18 a47 a48 a7 N _ _).trans hN) ?_
  ·intro p hp; simp only [List.mem_cons, List.not_mem_nil, or_false] at hp; rcases hp with rfl | rfl | rfl
   ·exact h47
   ·exact h48
   ·exact h7
  ·intro l o hd
   simp only [dec18] at hd
   split at hd
   ·obtain rfl := oij hd; exact ⟨rfl, rfl⟩
   ·cases hd
 ·cases hx
def E81 : Env := mkE TI TY [] nrc nfz
noncomputable def c81 : Code := bodyOf Try.f81
def lv81 : Nat → Option Norm := norms []
def en81 : End := ⟨[], ⟨[5], [], [], []⟩⟩
def dec81 (l : List TV) (o : List (Nat × TO)) : Option (Bool) := match l, o with | [.dv (.bool) x0], [] => some (x0) | _, _ => none
def m81 (N : Nat) (hx0 : Int) : Option (Bool) :=
   some (hx0 != (0 : Int))
theorem k81 (N : Nat) (hx0 : Int) : callF (E81) lv81 N en81 c81 (resOf Try.f81) 4 [.dv (.int .i64) hx0] [] dec81 = m81 N hx0 := by kernel_rfl
theorem ok81 (a : Int → Option (Bool)) (h : ∀ hx0 r, a hx0 = some r → (∃ N, m81 N hx0 = some r)) : FnOk Try.prog 81 (F81 a) := by
 intro args Of x hx
 simp only [F81] at hx
 split at hx
 ·rename_i hx0
  obtain ⟨N, hN⟩ := h _ _ hx
  refine lifted (L := []) (rc := nrc) (fz := nfz) (fn := Try.f81) (by kernel_rfl) (by kernel_rfl) (by kernel_rfl) (by kernel_rfl) rfl ?_ ((k81 N _).trans hN) ?_
  ·intro p hp; cases hp
  ·intro l o hd
   simp only [dec81] at hd
   split at hd
   ·obtain rfl := oij hd; exact ⟨rfl, rfl⟩
   ·cases hd
 ·cases hx
def E68c81 (a81 : Int → Option (Bool)) : Env := mkE TI TY [(81, F81 a81)] nrc nfz
noncomputable def c68c81 : Code := bodyOf Try.f68
def nm68c81_0 : Norm := ⟨[0, 1, 7, 8], [], [], []⟩
def lv68c81 : Nat → Option Norm := norms [(2, nm68c81_0)]
def en68c81 : End := ⟨[], ⟨[19], [], [], []⟩⟩
def dec68c81 (l : List TV) (o : List (Nat × TO)) : Option (Int) := match l, o with | [.dv (.int .i64) x0], [] => some (x0) | _, _ => none
def Sl68c81a (s0 : List Int) (t8_a : Int) : TS := ⟨slots 19 [(0, .dv (.sl (.int .i64)) s0), (1, .fn 81 0 0 fun i => ([] : List TV).getD i .any), (7, .dv (.int .i64) (s0.length : Int)), (8, .dv (.int .i64) t8_a)], []⟩
noncomputable def K68c81_0 (a81 : Int → Option (Bool)) (N : Nat) : Kont (Int) := kont (E68c81 a81) lv68c81 N c68c81 [1, 0, 1, 0] (fin TI en68c81 (resOf Try.f68) dec68c81)
noncomputable def R68c81_0 (a81 : Int → Option (Bool)) (N : Nat) (m : Nat) : TS → Option (Int) := loopK (den (E68c81 a81) lv68c81 N (sub c68c81 [1, 0, 1, 0, 0])) (TS.norm nm68c81_0) (K68c81_0 a81 N) m
def l68c81a (a81 : Int → Option (Bool)) (N : Nat) (s0 : List Int) : Nat → Int → Option (Int)
 | 0, _ => none
 | n + 1, t8_a => cond (decide (t8_a < (s0.length : Int))) (chk (decide (0 ≤ t8_a ∧ t8_a < (s0.length : Int))) ((a81 (s0.getD t8_a.toNat (0 : Int))).bind fun r1 =>
   cond (r1) (some t8_a)
   ((l68c81a a81 N s0 n (w64 (t8_a + (1 : Int)))))))
   (some (-1 : Int))
theorem wl68c81a (a81 : Int → Option (Bool)) (N : Nat) (s0 : List Int) (m : Nat) (t8_a : Int) : R68c81_0 a81 N (m + 1) (Sl68c81a s0 t8_a) = cond (decide (t8_a < (s0.length : Int))) (chk (decide (0 ≤ t8_a ∧ t8_a < (s0.length : Int))) ((a81 (s0.getD t8_a.toNat (0 : Int))).bind fun r1 =>
   cond (r1) (some t8_a)
   ((R68c81_0 a81 N m (Sl68c81a s0 (w64 (t8_a + (1 : Int))))))))
   (some (-1 : Int)) := by kernel_rfl
theorem ql68c81a (a81 : Int → Option (Bool)) (N : Nat) (s0 : List Int) : ∀ (m : Nat) (t8_a : Int), R68c81_0 a81 N m (Sl68c81a s0 t8_a) = l68c81a a81 N s0 m t8_a
        | 0, _ => rfl
        | m + 1, t8_a => by rw [wl68c81a]; simp only [l68c81a, ql68c81a a81 N s0 m]
def m68c81 (a81 : Int → Option (Bool)) (N : Nat) (s0 : List Int) : Option (Int) :=
   (l68c81a a81 N s0 N (0 : Int))
theorem wm68c81 (a81 : Int → Option (Bool)) (N : Nat) (s0 : List Int) : callF (E68c81 a81) lv68c81 N en68c81 c68c81 (resOf Try.f68) 17 [.dv (.sl (.int .i64)) s0, .fn 81 0 0 fun i => ([] : List TV).getD i .any] [] dec68c81 = (R68c81_0 a81 N N (Sl68c81a s0 (0 : Int))) := by kernel_rfl
theorem k68c81 (a81 : Int → Option (Bool)) (N : Nat) (s0 : List Int) : callF (E68c81 a81) lv68c81 N en68c81 c68c81 (resOf Try.f68) 17 [.dv (.sl (.int .i64)) s0, .fn 81 0 0 fun i => ([] : List TV).getD i .any] [] dec68c81 = m68c81 a81 N s0 := by rw [wm68c81]; simp only [m68c81, ql68c81a]
theorem ok68c81 (a81 : Int → Option (Bool)) (h81 : FnOk Try.prog 81 (F81 a81)) (a : (List Int) → Option (Int)) (h : ∀ s0 r, a s0 = some r → (∃ N, m68c81 a81 N s0 = some r)) : FnOk Try.prog 68 (F68c81 a) := by
 intro args Of x hx
 simp only [F68c81] at hx
 split at hx
 ·rename_i s0 f_0 heqc
  have hc0 := congrArg (fun c : List (List TV) => c.getD 0 []) heqc
  obtain ⟨N, hN⟩ := h _ _ hx
  refine HSpec.etaL (args := [.dv (.sl (.int .i64)) s0, .fn 81 0 0 fun i => ([] : List TV).getD i .any]) (O := []) ⟨TV.sim_refl _, TV.sim_fn hc0, trivial⟩ trivial (lifted (L := [(81, F81 a81)]) (rc := nrc) (fz := nfz) (fn := Try.f68) (by kernel_rfl) (by kernel_rfl) (by kernel_rfl) (by kernel_rfl) rfl ?_ ((k68c81 a81 N _).trans hN) ?_)
  ·intro p hp; simp only [List.mem_cons, List.not_mem_nil, or_false] at hp; rcases hp with rfl; exact h81
  ·intro l o hd
   simp only [dec68c81] at hd
   split at hd
   ·obtain rfl := oij hd; exact ⟨rfl, rfl⟩
   ·cases hd
 ·cases hx
def E33c81 (a68c81 : (List Int) → Option (Int)) : Env := mkE TI TY [(68, F68c81 a68c81)] nrc nfz
noncomputable def c33c81 : Code := bodyOf Try.f33
def lv33c81 : Nat → Option Norm := norms []
def en33c81 : End := ⟨[], ⟨[9], [], [], []⟩⟩
def dec33c81 (l : List TV) (o : List (Nat × TO)) : Option (Bool) := match l, o with | [.dv (.bool) x0], [] => some (x0) | _, _ => none
def m33c81 (a68c81 : (List Int) → Option (Int)) (N : Nat) (s0 : List Int) : Option (Bool) :=
   (a68c81 s0).bind fun r1 =>
   some (decide (r1 ≥ (0 : Int)))
theorem k33c81 (a68c81 : (List Int) → Option (Int)) (N : Nat) (s0 : List Int) : callF (E33c81 a68c81) lv33c81 N en33c81 c33c81 (resOf Try.f33) 7 [.dv (.sl (.int .i64)) s0, .fn 81 0 0 fun i => ([] : List TV).getD i .any] [] dec33c81 = m33c81 a68c81 N s0 := by kernel_rfl
theorem ok33c81 (a68c81 : (List Int) → Option (Int)) (h68c81 : FnOk Try.prog 68 (F68c81 a68c81)) (a : (List Int) → Option (Bool)) (h : ∀ s0 r, a s0 = some r → (∃ N, m33c81 a68c81 N s0 = some r)) : FnOk Try.prog 33 (F33c81 a) := by
 intro args Of x hx
 simp only [F33c81] at hx
 split at hx
 ·rename_i s0 f_0 heqc
  have hc0 := congrArg (fun c : List (List TV) => c.getD 0 []) heqc
  obtain ⟨N, hN⟩ := h _ _ hx
  refine HSpec.etaL (args := [.dv (.sl (.int .i64)) s0, .fn 81 0 0 fun i => ([] : List TV).getD i .any]) (O := []) ⟨TV.sim_refl _, TV.sim_fn hc0, trivial⟩ trivial (lifted (L := [(68, F68c81 a68c81)]) (rc := nrc) (fz := nfz) (fn := Try.f33) (by kernel_rfl) (by kernel_rfl) (by kernel_rfl) (by kernel_rfl) rfl ?_ ((k33c81 a68c81 N _).trans hN) ?_)
  ·intro p hp; simp only [List.mem_cons, List.not_mem_nil, or_false] at hp; rcases hp with rfl; exact h68c81
  ·intro l o hd
   simp only [dec33c81] at hd
   split at hd
   ·obtain rfl := oij hd; exact ⟨rfl, rfl⟩
   ·cases hd
 ·cases hx
def E79 : Env := mkE TI TY [] nrc nfz
noncomputable def c79 : Code := bodyOf Try.f79
def lv79 : Nat → Option Norm := norms []
def en79 : End := ⟨[], ⟨[], [], [(.slot 8, 1500, .int .i64)], []⟩⟩
def dec79 (l : List TV) (o : List (Nat × TO)) : Option (List Int) := match l, o with | [.row 1500], [(1500, .row (.int .i64) x0)] => some (x0) | _, _ => none
def m79 (N : Nat) (s0 : Option (List Int)) : Option (List Int) :=
   cond (s0.isNone) (some ([] : List Int))
   (chk (small (0 + (s0.getD []).length) 8) (some (([] : List Int) ++ (s0.getD []))))
theorem k79 (N : Nat) (s0 : Option (List Int)) : callF (E79) lv79 N en79 c79 (resOf Try.f79) 7 [.dv (.nsl (.int .i64)) s0] [] dec79 = m79 N s0 := by kernel_rfl
theorem ok79 (a : (Option (List Int)) → Option (List Int)) (h : ∀ s0 r, a s0 = some r → (∃ N, m79 N s0 = some r)) : FnOk Try.prog 79 (F79 a) := by
 intro args Of x hx
 simp only [F79] at hx
 split at hx
 ·rename_i s0
  obtain ⟨N, hN⟩ := h _ _ hx
  refine lifted (L := []) (rc := nrc) (fz := nfz) (fn := Try.f79) (by kernel_rfl) (by kernel_rfl) (by kernel_rfl) (by kernel_rfl) rfl ?_ ((k79 N _).trans hN) ?_
  ·intro p hp; cases hp
  ·intro l o hd
   simp only [dec79] at hd
   split at hd
   ·obtain rfl := oij hd; exact ⟨rfl, rfl⟩
   ·cases hd
 ·cases hx
def E96c (a57 : Int → Int → Int → Option (Bool)) : Env := mkE TI TY [(57, F57 a57)] nrc nfz
noncomputable def c96c : Code := bodyOf Try.f96
def lv96c : Nat → Option Norm := norms []
def en96c : End := ⟨[], ⟨[9], [9000], [], []⟩⟩
def dec96c (l : List TV) (o : List (Nat × TO)) : Option (Bool × Int) := match l, o with | [.dv (.bool) x0], [(9000, .rcd [.dv (.int .i64) x1])] => some (x0, x1) | _, _ => none
def m96c (a57 : Int → Int → Int → Option (Bool)) (N : Nat) (kx0 : Int) (p1 : Int) : Option (Bool × Int) :=
   (a57 (-1 : Int) kx0 (w64 (p1 - (1 : Int)))).bind fun r1 =>
   some (!r1, p1)
theorem k96c (a57 : Int → Int → Int → Option (Bool)) (N : Nat) (kx0 : Int) (p1 : Int) : callF (E96c a57) lv96c N en96c c96c (resOf Try.f96) 7 [.dv (.int .i64) kx0, .ptr 9000 0 [0]] [(9000, .rcd [.dv (.int .i64) p1])] dec96c = m96c a57 N kx0 p1 := by kernel_rfl
theorem ok96c (a57 : Int → Int → Int → Option (Bool)) (h57 : FnOk Try.prog 57 (F57 a57)) (a : Int → Int → Option (Bool × Int)) (h : ∀ kx0 p1 r, a kx0 p1 = some r → (∃ N, m96c a57 N kx0 p1 = some r)) : FnOk Try.prog 96 (F96c a) := by
 intro args Of x hx
 simp only [F96c] at hx
 split at hx
 ·rename_i kx0 p1
  obtain ⟨N, hN⟩ := h _ _ _ hx
  refine lifted (L := [(57, F57 a57)]) (rc := nrc) (fz := nfz) (fn := Try.f96) (by kernel_rfl) (by kernel_rfl) (by kernel_rfl) (by kernel_rfl) rfl ?_ ((k96c a57 N _ _).trans hN) ?_
  ·intro p hp; simp only [List.mem_cons, List.not_mem_nil, or_false] at hp; rcases hp with rfl; exact h57
  ·intro l o hd
   simp only [dec96c] at hd
   split at hd
   ·obtain rfl := oij hd; exact ⟨rfl, rfl⟩
   ·cases hd
 ·cases hx
def E68c96 (a96c : Int → Int → Option (Bool × Int)) : Env := mkE TI TY [(96, F96c a96c)] nrc nfz
noncomputable def c68c96 : Code := bodyOf Try.f68
def nm68c96_0 : Norm := ⟨[0, 1, 7, 8], [9000], [], []⟩
def lv68c96 : Nat → Option Norm := norms [(2, nm68c96_0)]
def en68c96 : End := ⟨[], ⟨[19], [9000], [], []⟩⟩
def dec68c96 (l : List TV) (o : List (Nat × TO)) : Option (Int × Int) := match l, o with | [.dv (.int .i64) x0], [(9000, .rcd [.dv (.int .i64) x1])] => some (x0, x1) | _, _ => none
def Sl68c96a (s0 : List Int) (t8_a : Int) (o9000_af0 : Int) : TS := ⟨slots 19 [(0, .dv (.sl (.int .i64)) s0), (1, .fn 96 0 1 fun i => ([.ptr 9000 0 [0]] : List TV).getD i .any), (7, .dv (.int .i64) (s0.length : Int)), (8, .dv (.int .i64) t8_a)], [(9000, .rcd [.dv (.int .i64) o9000_af0])]⟩
noncomputable def K68c96_0 (a96c : Int → Int → Option (Bool × Int)) (N : Nat) : Kont (Int × Int) := kont (E68c96 a96c) lv68c96 N c68c96 [1, 0, 1, 0] (fin TI en68c96 (resOf Try.f68) dec68c96)
noncomputable def R68c96_0 (a96c : Int → Int → Option (Bool × Int)) (N : Nat) (m : Nat) : TS → Option (Int × Int) := loopK (den (E68c96 a96c) lv68c96 N (sub c68c96 [1, 0, 1, 0, 0])) (TS.norm nm68c96_0) (K68c96_0 a96c N) m
def l68c96a (a96c : Int → Int → Option (Bool × Int)) (N : Nat) (s0 : List Int) : Nat → Int → Int → Option (Int × Int)
 | 0, _, _ => none
 | n + 1, t8_a, o9000_af0 => cond (decide (t8_a < (s0.length : Int))) (chk (decide (0 ≤ t8_a ∧ t8_a < (s0.length : Int))) ((a96c (s0.getD t8_a.toNat (0 : Int)) o9000_af0).bind fun r1 =>
   cond (r1.1) (some (t8_a, r1.2))
   ((l68c96a a96c N s0 n (w64 (t8_a + (1 : Int))) r1.2))))
   (some ((-1 : Int), o9000_af0))
theorem wl68c96a (a96c : Int → Int → Option (Bool × Int)) (N : Nat) (s0 : List Int) (m : Nat) (t8_a : Int) (o9000_af0 : Int) : R68c96_0 a96c N (m + 1) (Sl68c96a s0 t8_a o9000_af0) = cond (decide (t8_a < (s0.length : Int))) (chk (decide (0 ≤ t8_a ∧ t8_a < (s0.length : Int))) ((a96c (s0.getD t8_a.toNat (0 : Int)) o9000_af0).bind fun r1 =>
   cond (r1.1) (some (t8_a, r1.2))
   ((R68c96_0 a96c N m (Sl68c96a s0 (w64 (t8_a + (1 : Int))) r1.2)))))
   (some ((-1 : Int), o9000_af0)) := by kernel_rfl
theorem ql68c96a (a96c : Int → Int → Option (Bool × Int)) (N : Nat) (s0 : List Int) : ∀ (m : Nat) (t8_a : Int) (o9000_af0 : Int), R68c96_0 a96c N m (Sl68c96a s0 t8_a o9000_af0) = l68c96a a96c N s0 m t8_a o9000_af0
        | 0, _, _ => rfl
        | m + 1, t8_a, o9000_af0 => by rw [wl68c96a]; simp only [l68c96a, ql68c96a a96c N s0 m]
def m68c96 (a96c : Int → Int → Option (Bool × Int)) (N : Nat) (s0 : List Int) (p1 : Int) : Option (Int × Int) :=
   (l68c96a a96c N s0 N (0 : Int) p1)
theorem wm68c96 (a96c : Int → Int → Option (Bool × Int)) (N : Nat) (s0 : List Int) (p1 : Int) : callF (E68c96 a96c) lv68c96 N en68c96 c68c96 (resOf Try.f68) 17 [.dv (.sl (.int .i64)) s0, .fn 96 0 1 fun i => ([.ptr 9000 0 [0]] : List TV).getD i .any] [(9000, .rcd [.dv (.int .i64) p1])] dec68c96 = (R68c96_0 a96c N N (Sl68c96a s0 (0 : Int) p1)) := by kernel_rfl
theorem k68c96 (a96c : Int → Int → Option (Bool × Int)) (N : Nat) (s0 : List Int) (p1 : Int) : callF (E68c96 a96c) lv68c96 N en68c96 c68c96 (resOf Try.f68) 17 [.dv (.sl (.int .i64)) s0, .fn 96 0 1 fun i => ([.ptr 9000 0 [0]] : List TV).getD i .any] [(9000, .rcd [.dv (.int .i64) p1])] dec68c96 = m68c96 a96c N s0 p1 := by rw [wm68c96]; simp only [m68c96, ql68c96a]
theorem ok68c96 (a96c : Int → Int → Option (Bool × Int)) (h96c : FnOk Try.prog 96 (F96c a96c)) (a : (List Int) → Int → Option (Int × Int)) (h : ∀ s0 p1 r, a s0 p1 = some r → (∃ N, m68c96 a96c N s0 p1 = some r)) : FnOk Try.prog 68 (F68c96 a) := by
 intro args Of x hx
 simp only [F68c96] at hx
 split at hx
 ·rename_i s0 f_0 p1 heqc
  have hc0 := congrArg (fun c : List (List TV) => c.getD 0 []) heqc
  obtain ⟨N, hN⟩ := h _ _ _ hx
  refine HSpec.etaL (args := [.dv (.sl (.int .i64)) s0, .fn 96 0 1 fun i => ([.ptr 9000 0 [0]] : List TV).getD i .any]) (O := [(9000, .rcd [.dv (.int .i64) p1])]) ⟨TV.sim_refl _, TV.sim_fn hc0, trivial⟩ ⟨rfl, TO.sim_refl _, trivial⟩ (lifted (L := [(96, F96c a96c)]) (rc := nrc) (fz := nfz) (fn := Try.f68) (by kernel_rfl) (by kernel_rfl) (by kernel_rfl) (by kernel_rfl) rfl ?_ ((k68c96 a96c N _ _).trans hN) ?_)
  ·intro p hp; simp only [List.mem_cons, List.not_mem_nil, or_false] at hp; rcases hp with rfl; exact h96c
  ·intro l o hd
   simp only [dec68c96] at hd
   split at hd
   ·obtain rfl := oij hd; exact ⟨rfl, rfl⟩
   ·cases hd
 ·cases hx
def E33c96 (a68c96 : (List Int) → Int → Option (Int × Int)) : Env := mkE TI TY [(68, F68c96 a68c96)] nrc nfz
noncomputable def c33c96 : Code := bodyOf Try.f33
def lv33c96 : Nat → Option Norm := norms []
def en33c96 : End := ⟨[], ⟨[9], [9000], [], []⟩⟩
def dec33c96 (l : List TV) (o : List (Nat × TO)) : Option (Bool × Int) := match l, o with | [.dv (.bool) x0], [(9000, .rcd [.dv (.int .i64) x1])] => some (x0, x1) | _, _ => none
def m33c96 (a68c96 : (List Int) → Int → Option (Int × Int)) (N : Nat) (s0 : List Int) (p1 : Int) : Option (Bool × Int) :=
   (a68c96 s0 p1).bind fun r1 =>
   some (decide (r1.1 ≥ (0 : Int)), r1.2)
theorem k33c96 (a68c96 : (List Int) → Int → Option (Int × Int)) (N : Nat) (s0 : List Int) (p1 : Int) : callF (E33c96 a68c96) lv33c96 N en33c96 c33c96 (resOf Try.f33) 7 [.dv (.sl (.int .i64)) s0, .fn 96 0 1 fun i => ([.ptr 9000 0 [0]] : List TV).getD i .any] [(9000, .rcd [.dv (.int .i64) p1])] dec33c96 = m33c96 a68c96 N s0 p1 := by kernel_rfl
theorem ok33c96 (a68c96 : (List Int) → Int → Option (Int × Int)) (h68c96 : FnOk Try.prog 68 (F68c96 a68c96)) (a : (List Int) → Int → Option (Bool × Int)) (h : ∀ s0 p1 r, a s0 p1 = some r → (∃ N, m33c96 a68c96 N s0 p1 = some r)) : FnOk Try.prog 33 (F33c96 a) := by
 intro args Of x hx
 simp only [F33c96] at hx
 split at hx
 ·rename_i s0 f_0 p1 heqc
  have hc0 := congrArg (fun c : List (List TV) => c.getD 0 []) heqc
  obtain ⟨N, hN⟩ := h _ _ _ hx
  refine HSpec.etaL (args := [.dv (.sl (.int .i64)) s0, .fn 96 0 1 fun i => ([.ptr 9000 0 [0]] : List TV).getD i .any]) (O := [(9000, .rcd [.dv (.int .i64) p1])]) ⟨TV.sim_refl _, TV.sim_fn hc0, trivial⟩ ⟨rfl, TO.sim_refl _, trivial⟩ (lifted (L := [(68, F68c96 a68c96)]) (rc := nrc) (fz := nfz) (fn := Try.f33) (by kernel_rfl) (by kernel_rfl) (by kernel_rfl) (by kernel_rfl) rfl ?_ ((k33c96 a68c96 N _ _).trans hN) ?_)
  ·intro p hp; simp only [List.mem_cons, List.not_mem_nil, or_false] at hp; rcases hp with rfl; exact h68c96
  ·intro l o hd
   simp only [dec33c96] at hd
   split at hd
   ·obtain rfl := oij hd; exact ⟨rfl, rfl⟩
   ·cases hd
 ·cases hx
def E80 (a33c96 : (List Int) → Int → Option (Bool × Int)) (a57 : Int → Int → Int → Option (Bool)) (a62c63 : (List Int) → Option (Int)) (a97 : (List Int) → Option (Int)) : Env := mkE TI TY [(33, F33c96 a33c96), (57, F57 a57), (62, F62c63 a62c63), (97, F97 a97)] nrc nfz
noncomputable def c80 : Code := bodyOf Try.f80
def nm80_0 : Norm := ⟨[1, 8, 35, 36, 37], [33], [], []⟩
def lv80 : Nat → Option Norm := norms [(10, nm80_0)]
def en80 : End := ⟨[], ⟨[59], [], [], []⟩⟩
def dec80 (l : List TV) (o : List (Nat × TO)) : Option (Int) := match l, o with | [.dv (.int .i64) x0], [] => some (x0) | _, _ => none
def Sl80a (seats1 : Int) (s2 : Int × List Int × Unit) (t37_a : Int) (o33_a : List Int) : TS := ⟨slots 59 [(1, .dv (.int .i64) seats1), (8, .row 33), (35, .dv (.sl (.int .i64)) s2.2.1), (36, .dv (.int .i64) (s2.2.1.length : Int)), (37, .dv (.int .i64) t37_a)], [(33, .row (.int .i64) o33_a)]⟩
noncomputable def K80_0 (a33c96 : (List Int) → Int → Option (Bool × Int)) (a57 : Int → Int → Int → Option (Bool)) (a62c63 : (List Int) → Option (Int)) (a97 : (List Int) → Option (Int)) (N : Nat) : Kont (Int) := kont (E80 a33c96 a57 a62c63 a97) lv80 N c80 [1, 1, 1, 1, 0, 1, 0] (fin TI en80 (resOf Try.f80) dec80)
noncomputable def R80_0 (a33c96 : (List Int) → Int → Option (Bool × Int)) (a57 : Int → Int → Int → Option (Bool)) (a62c63 : (List Int) → Option (Int)) (a97 : (List Int) → Option (Int)) (N : Nat) (m : Nat) : TS → Option (Int) := loopK (den (E80 a33c96 a57 a62c63 a97) lv80 N (sub c80 [1, 1, 1, 1, 0, 1, 0, 0])) (TS.norm nm80_0) (K80_0 a33c96 a57 a62c63 a97 N) m
def l80a (a33c96 : (List Int) → Int → Option (Bool × Int)) (a57 : Int → Int → Int → Option (Bool)) (a62c63 : (List Int) → Option (Int)) (a97 : (List Int) → Option (Int)) (N : Nat) (seats1 : Int) (s2 : Int × List Int × Unit) : Nat → Int → (List Int) → Option (Int)
 | 0, _, _ => none
 | n + 1, t37_a, o33_a => cond (decide (t37_a < (s2.2.1.length : Int))) (chk (decide (0 ≤ t37_a ∧ t37_a < (s2.2.1.length : Int))) (cond ((s2.2.1.getD t37_a.toNat (0 : Int)) != (-1 : Int)) (chk (decide (0 ≤ s2.2.1.getD t37_a.toNat (0 : Int) ∧ s2.2.1.getD t37_a.toNat (0 : Int) < (o33_a.length : Int))) (chk (decide (0 ≤ s2.2.1.getD t37_a.toNat (0 : Int) ∧ s2.2.1.getD t37_a.toNat (0 : Int) < (o33_a.length : Int))) ((l80a a33c96 a57 a62c63 a97 N seats1 s2 n (w64 (t37_a + (1 : Int))) (o33_a.set ((s2.2.1.getD t37_a.toNat (0 : Int)).toNat) (w64 ((o33_a.getD ((s2.2.1.getD t37_a.toNat (0 : Int)).toNat) (0 : Int)) + (1 : Int))))))))
   ((l80a a33c96 a57 a62c63 a97 N seats1 s2 n (w64 (t37_a + (1 : Int))) o33_a))))
   ((a97 o33_a).bind fun r3 =>
   cond (decide (r3 > (1 : Int))) (some (6 : Int))
   ((a62c63 o33_a).bind fun r4 =>
   cond (decide (r4 > seats1)) (some (16 : Int))
   (some (0 : Int))))
theorem wl80a (a33c96 : (List Int) → Int → Option (Bool × Int)) (a57 : Int → Int → Int → Option (Bool)) (a62c63 : (List Int) → Option (Int)) (a97 : (List Int) → Option (Int)) (N : Nat) (seats1 : Int) (s2 : Int × List Int × Unit) (m : Nat) (t37_a : Int) (o33_a : List Int) : R80_0 a33c96 a57 a62c63 a97 N (m + 1) (Sl80a seats1 s2 t37_a o33_a) = cond (decide (t37_a < (s2.2.1.length : Int))) (chk (decide (0 ≤ t37_a ∧ t37_a < (s2.2.1.length : Int))) (cond ((s2.2.1.getD t37_a.toNat (0 : Int)) != (-1 : Int)) (chk (decide (0 ≤ s2.2.1.getD t37_a.toNat (0 : Int) ∧ s2.2.1.getD t37_a.toNat (0 : Int) < (o33_a.length : Int))) (chk (decide (0 ≤ s2.2.1.getD t37_a.toNat (0 : Int) ∧ s2.2.1.getD t37_a.toNat (0 : Int) < (o33_a.length : Int))) ((R80_0 a33c96 a57 a62c63 a97 N m (Sl80a seats1 s2 (w64 (t37_a + (1 : Int))) (o33_a.set ((s2.2.1.getD t37_a.toNat (0 : Int)).toNat) (w64 ((o33_a.getD ((s2.2.1.getD t37_a.toNat (0 : Int)).toNat) (0 : Int)) + (1 : Int)))))))))
   ((R80_0 a33c96 a57 a62c63 a97 N m (Sl80a seats1 s2 (w64 (t37_a + (1 : Int))) o33_a)))))
   ((a97 o33_a).bind fun r3 =>
   cond (decide (r3 > (1 : Int))) (some (6 : Int))
   ((a62c63 o33_a).bind fun r4 =>
   cond (decide (r4 > seats1)) (some (16 : Int))
   (some (0 : Int)))) := by kernel_rfl
theorem ql80a (a33c96 : (List Int) → Int → Option (Bool × Int)) (a57 : Int → Int → Int → Option (Bool)) (a62c63 : (List Int) → Option (Int)) (a97 : (List Int) → Option (Int)) (N : Nat) (seats1 : Int) (s2 : Int × List Int × Unit) : ∀ (m : Nat) (t37_a : Int) (o33_a : List Int), R80_0 a33c96 a57 a62c63 a97 N m (Sl80a seats1 s2 t37_a o33_a) = l80a a33c96 a57 a62c63 a97 N seats1 s2 m t37_a o33_a
        | 0, _, _ => rfl
        | m + 1, t37_a, o33_a => by rw [wl80a]; simp only [l80a, ql80a a33c96 a57 a62c63 a97 N seats1 s2 m]
def m80 (a33c96 : (List Int) → Int → Option (Bool × Int)) (a57 : Int → Int → Int → Option (Bool)) (a62c63 : (List Int) → Option (Int)) (a97 : (List Int) → Option (Int)) (N : Nat) (work0 : List (List Int)) (seats1 : Int) (s2 : Int × List Int × Unit) : Option (Int) :=
   chk (decide (0 ≤ (0 : Int) ∧ (0 : Int) < (work0.length : Int))) (cond ((s2.2.1.length : Int) != (work0.length : Int)) (some (3 : Int))
   ((a57 (1 : Int) s2.1 (1100 : Int)).bind fun r1 =>
   cond (!r1) (some (4 : Int))
   ((a33c96 s2.2.1 ((work0.getD 0 ([] : List Int)).length : Int)).bind fun r2 =>
   cond (r2.1) (some (5 : Int))
   (chk (mkOk r2.2 r2.2 8) ((l80a a33c96 a57 a62c63 a97 N seats1 s2 N (0 : Int) (List.replicate r2.2.toNat (0 : Int))))))))
theorem wm80 (a33c96 : (List Int) → Int → Option (Bool × Int)) (a57 : Int → Int → Int → Option (Bool)) (a62c63 : (List Int) → Option (Int)) (a97 : (List Int) → Option (Int)) (N : Nat) (work0 : List (List Int)) (seats1 : Int) (s2 : Int × List Int × Unit) : callF (E80 a33c96 a57 a62c63 a97) lv80 N en80 c80 (resOf Try.f80) 56 [.dv (.sl (.sl (.int .i64))) work0, .dv (.int .i64) seats1, .dv (.pair (.int .i64) (.pair (.sl (.int .i64)) (.unit))) s2] [] dec80 = chk (decide (0 ≤ (0 : Int) ∧ (0 : Int) < (work0.length : Int))) (cond ((s2.2.1.length : Int) != (work0.length : Int)) (some (3 : Int))
   ((a57 (1 : Int) s2.1 (1100 : Int)).bind fun r1 =>
   cond (!r1) (some (4 : Int))
   ((a33c96 s2.2.1 ((work0.getD 0 ([] : List Int)).length : Int)).bind fun r2 =>
   cond (r2.1) (some (5 : Int))
   (chk (mkOk r2.2 r2.2 8) ((R80_0 a33c96 a57 a62c63 a97 N N (Sl80a seats1 s2 (0 : Int) (List.replicate r2.2.toNat (0 : Int))))))))) := by kernel_rfl
theorem k80 (a33c96 : (List Int) → Int → Option (Bool × Int)) (a57 : Int → Int → Int → Option (Bool)) (a62c63 : (List Int) → Option (Int)) (a97 : (List Int) → Option (Int)) (N : Nat) (work0 : List (List Int)) (seats1 : Int) (s2 : Int × List Int × Unit) : callF (E80 a33c96 a57 a62c63 a97) lv80 N en80 c80 (resOf Try.f80) 56 [.dv (.sl (.sl (.int .i64))) work0, .dv (.int .i64) seats1, .dv (.pair (.int .i64) (.pair (.sl (.int .i64)) (.unit))) s2] [] dec80 = m80 a33c96 a57 a62c63 a97 N work0 seats1 s2 := by rw [wm80]; simp only [m80, ql80a]
theorem ok80 (a33c96 : (List Int) → Int → Option (Bool × Int)) (a57 : Int → Int → Int → Option (Bool)) (a62c63 : (List Int) → Option (Int)) (a97 : (List Int) → Option (Int)) (h33c96 : FnOk Try.prog 33 (F33c96 a33c96)) (h57 : FnOk Try.prog 57 (F57 a57)) (h62c63 : FnOk Try.prog 62 (F62c63 a62c63)) (h97 : FnOk Try.prog 97 (F97 a97)) (a : (List (List Int)) → Int → (Int × List Int × Unit) → Option (Int)) (h : ∀ work0 seats1 s2 r, a work0 seats1 s2 = some r → (∃ N, m80 a33c96 a57 a62c63 a97 N work0 seats1 s2 = some r)) : FnOk Try.prog 80 (F80 a) := by
 intro args Of x hx
 simp only [F80] at hx
 split at hx
 ·rename_i work0 seats1 s2
  obtain ⟨N, hN⟩ := h _ _ _ _ hx
  refine lifted (L := [(33, F33c96 a33c96), (57, F57 a57), (62, F62c63 a62c63), (97, F97 a97)]) (rc := nrc) (fz := nfz) (fn := Try.f80) (by kernel_rfl) (by kernel_rfl) (by kernel_rfl) (by kernel_rfl) rfl ?_ ((k80 a33c96 a57 a62c63 a97 N _ _ _).trans hN) ?_
  ·intro p hp; simp only [List.mem_cons, List.not_mem_nil, or_false] at hp; rcases hp with rfl | rfl | rfl | rfl
   ·exact h33c96
   ·exact h57
   ·exact h62c63
   ·exact h97
  ·intro l o hd
   simp only [dec80] at hd
   split at hd
   ·obtain rfl := oij hd; exact ⟨rfl, rfl⟩
   ·cases hd
 ·cases hx
def E83 : Env := mkE TI TY [] nrc nfz
noncomputable def c83 : Code := bodyOf Try.f83
def lv83 : Nat → Option Norm := norms []
def en83 : End := ⟨[], ⟨[5], [], [], []⟩⟩
def dec83 (l : List TV) (o : List (Nat × TO)) : Option (Int) := match l, o with | [.dv (.int .i64) x0], [] => some (x0) | _, _ => none
def m83 (N : Nat) (s0 : Int × List Int × Unit) : Option (Int) :=
   some s0.1
theorem k83 (N : Nat) (s0 : Int × List Int × Unit) : callF (E83) lv83 N en83 c83 (resOf Try.f83) 4 [.dv (.pair (.int .i64) (.pair (.sl (.int .i64)) (.unit))) s0] [] dec83 = m83 N s0 := by kernel_rfl
theorem ok83 (a : (Int × List Int × Unit) → Option (Int)) (h : ∀ s0 r, a s0 = some r → (∃ N, m83 N s0 = some r)) : FnOk Try.prog 83 (F83 a) := by
 intro args Of x hx
 simp only [F83] at hx
 split at hx
 ·rename_i s0
  obtain ⟨N, hN⟩ := h _ _ hx
  refine lifted (L := []) (rc := nrc) (fz := nfz) (fn := Try.f83) (by kernel_rfl) (by kernel_rfl) (by kernel_rfl) (by kernel_rfl) rfl ?_ ((k83 N _).trans hN) ?_
  ·intro p hp; cases hp
  ·intro l o hd
   simp only [dec83] at hd
   split at hd
   ·obtain rfl := oij hd; exact ⟨rfl, rfl⟩
   ·cases hd
 ·cases hx
def E82c83 (a83 : (Int × List Int × Unit) → Option (Int)) : Env := mkE TI TY [(83, F83 a83)] nrc nfz
noncomputable def c82c83 : Code := bodyOf Try.f82
def nm82c83_0 : Norm := ⟨[1, 5, 8, 9, 10], [], [], []⟩
def lv82c83 : Nat → Option Norm := norms [(3, nm82c83_0)]
def en82c83 : End := ⟨[], ⟨[21], [], [], []⟩⟩
def dec82c83 (l : List TV) (o : List (Nat × TO)) : Option (Int) := match l, o with | [.dv (.int .i64) x0], [] => some (x0) | _, _ => none
def Sl82c83a (lx0 : List (Int × List Int × Unit)) (n5_a : Int) (t10_a : Int) : TS := ⟨slots 21 [(1, .fn 83 0 0 fun i => ([] : List TV).getD i .any), (5, .dv (.int .i64) n5_a), (8, .dv (.sl (.pair (.int .i64) (.pair (.sl (.int .i64)) (.unit)))) lx0), (9, .dv (.int .i64) (lx0.length : Int)), (10, .dv (.int .i64) t10_a)], []⟩
noncomputable def K82c83_0 (a83 : (Int × List Int × Unit) → Option (Int)) (N : Nat) : Kont (Int) := kont (E82c83 a83) lv82c83 N c82c83 [1, 1, 0, 1, 0] (fin TI en82c83 (resOf Try.f82) dec82c83)
noncomputable def R82c83_0 (a83 : (Int × List Int × Unit) → Option (Int)) (N : Nat) (m : Nat) : TS → Option (Int) := loopK (den (E82c83 a83) lv82c83 N (sub c82c83 [1, 1, 0, 1, 0, 0])) (TS.norm nm82c83_0) (K82c83_0 a83 N) m
def l82c83a (a83 : (Int × List Int × Unit) → Option (Int)) (N : Nat) (lx0 : List (Int × List Int × Unit)) : Nat → Int → Int → Option (Int)
 | 0, _, _ => none
 | n + 1, n5_a, t10_a => cond (decide (t10_a < (lx0.length : Int))) (chk (decide (0 ≤ t10_a ∧ t10_a < (lx0.length : Int))) ((a83 (lx0.getD t10_a.toNat ((0 : Int), (([] : List Int), ())))).bind fun r1 =>
   (l82c83a a83 N lx0 n (w64 (n5_a + r1)) (w64 (t10_a + (1 : Int))))))
   (some n5_a)
theorem wl82c83a (a83 : (Int × List Int × Unit) → Option (Int)) (N : Nat) (lx0 : List (Int × List Int × Unit)) (m : Nat) (n5_a : Int) (t10_a : Int) : R82c83_0 a83 N (m + 1) (Sl82c83a lx0 n5_a t10_a) = cond (decide (t10_a < (lx0.length : Int))) (chk (decide (0 ≤ t10_a ∧ t10_a < (lx0.length : Int))) ((a83 (lx0.getD t10_a.toNat ((0 : Int), (([] : List Int), ())))).bind fun r1 =>
   (R82c83_0 a83 N m (Sl82c83a lx0 (w64 (n5_a + r1)) (w64 (t10_a + (1 : Int)))))))
   (some n5_a) := by kernel_rfl
theorem ql82c83a (a83 : (Int × List Int × Unit) → Option (Int)) (N : Nat) (lx0 : List (Int × List Int × Unit)) : ∀ (m : Nat) (n5_a : Int) (t10_a : Int), R82c83_0 a83 N m (Sl82c83a lx0 n5_a t10_a) = l82c83a a83 N lx0 m n5_a t10_a
        | 0, _, _ => rfl
        | m + 1, n5_a, t10_a => by rw [wl82c83a]; simp only [l82c83a, ql82c83a a83 N lx0 m]
def m82c83 (a83 : (Int × List Int × Unit) → Option (Int)) (N : Nat) (lx0 : List (Int × List Int × Unit)) : Option (Int) :=
   (l82c83a a83 N lx0 N (0 : Int) (0 : Int))
theorem wm82c83 (a83 : (Int × List Int × Unit) → Option (Int)) (N : Nat) (lx0 : List (Int × List Int × Unit)) : callF (E82c83 a83) lv82c83 N en82c83 c82c83 (resOf Try.f82) 19 [.dv (.sl (.pair (.int .i64) (.pair (.sl (.int .i64)) (.unit)))) lx0, .fn 83 0 0 fun i => ([] : List TV).getD i .any] [] dec82c83 = (R82c83_0 a83 N N (Sl82c83a lx0 (0 : Int) (0 : Int))) := by kernel_rfl
theorem k82c83 (a83 : (Int × List Int × Unit) → Option (Int)) (N : Nat) (lx0 : List (Int × List Int × Unit)) : callF (E82c83 a83) lv82c83 N en82c83 c82c83 (resOf Try.f82) 19 [.dv (.sl (.pair (.int .i64) (.pair (.sl (.int .i64)) (.unit)))) lx0, .fn 83 0 0 fun i => ([] : List TV).getD i .any] [] dec82c83 = m82c83 a83 N lx0 := by rw [wm82c83]; simp only [m82c83, ql82c83a]
theorem ok82c83 (a83 : (Int × List Int × Unit) → Option (Int)) (h83 : FnOk Try.prog 83 (F83 a83)) (a : (List (Int × List Int × Unit)) → Option (Int)) (h : ∀ lx0 r, a lx0 = some r → (∃ N, m82c83 a83 N lx0 = some r)) : FnOk Try.prog 82 (F82c83 a) := by
 intro args Of x hx
 simp only [F82c83] at hx
 split at hx
 ·rename_i lx0 f_0 heqc
  have hc0 := congrArg (fun c : List (List TV) => c.getD 0 []) heqc
  obtain ⟨N, hN⟩ := h _ _ hx
  refine HSpec.etaL (args := [.dv (.sl (.pair (.int .i64) (.pair (.sl (.int .i64)) (.unit)))) lx0, .fn 83 0 0 fun i => ([] : List TV).getD i .any]) (O := []) ⟨TV.sim_refl _, TV.sim_fn hc0, trivial⟩ trivial (lifted (L := [(83, F83 a83)]) (rc := nrc) (fz := nfz) (fn := Try.f82) (by kernel_rfl) (by kernel_rfl) (by kernel_rfl) (by kernel_rfl) rfl ?_ ((k82c83 a83 N _).trans hN) ?_)
  ·intro p hp; simp only [List.mem_cons, List.not_mem_nil, or_false] at hp; rcases hp with rfl; exact h83
  ·intro l o hd
   simp only [dec82c83] at hd
   split at hd
   ·obtain rfl := oij hd; exact ⟨rfl, rfl⟩
   ·cases hd
 ·cases hx
def E49 (a23 : (List (List Int)) → Int → Option (Int)) (a33c81 : (List Int) → Option (Bool)) (a34 : (List (List Int)) → Option (List Int)) (a79 : (Option (List Int)) → Option (List Int)) (a80 : (List (List Int)) → Int → (Int × List Int × Unit) → Option (Int)) (a82c83 : (List (Int × List Int × Unit)) → Option (Int)) : Env := mkE TI TY [(23, F23 a23), (33, F33c81 a33c81), (34, F34 a34), (79, F79 a79), (80, F80 a80), (82, F82c83 a82c83)] nrc (fun i => ([37] : List Nat).contains i)
noncomputable def c49 : Code := bodyOf Try.f49
def nm49_0 : Norm := ⟨[0, 1, 2, 28, 29, 30], [], [(.slot 9, 1009, .tup (.sl (.int .i64)))], []⟩
def nm49_1 : Norm := ⟨[0, 1, 2, 9, 40, 41, 42], [1009], [], []⟩
def nm49_2 : Norm := ⟨[0, 1, 2, 9, 13, 40, 41, 42, 54, 55, 56], [1009, 13], [], []⟩
def lv49 : Nat → Option Norm := norms [(8, nm49_0), (13, nm49_1), (19, nm49_2)]
def en49 : End := ⟨[], ⟨[81, 82], [], [], []⟩⟩
def dec49 (l : List TV) (o : List (Nat × TO)) : Option (Int × Int) := match l, o with | [.dv (.int .i64) x0, .dv (.int .i64) x1], [] => some (x0, x1) | _, _ => none
def Sl49c (work0 : List (List Int)) (seats1 : Int) (plan2 : List (Int × List Int × Unit)) (t42_b : Int) (t56_c : Int) (o1009_c : List (List Int)) : TS := ⟨slots 81 [(0, .dv (.sl (.sl (.int .i64))) work0), (1, .dv (.int .i64) seats1), (2, .dv (.sl (.pair (.int .i64) (.pair (.sl (.int .i64)) (.unit)))) plan2), (9, .row 1009), (13, .ptr 13 0 []), (40, .dv (.sl (.pair (.int .i64) (.pair (.sl (.int .i64)) (.unit)))) plan2), (41, .dv (.int .i64) (plan2.length : Int)), (42, .dv (.int .i64) t42_b), (54, .dv (.sl (.int .i64)) (((plan2.getD t42_b.toNat ((0 : Int), (([] : List Int), ()))).2).1)), (55, .dv (.int .i64) ((((plan2.getD t42_b.toNat ((0 : Int), (([] : List Int), ()))).2).1).length : Int)), (56, .dv (.int .i64) t56_c)], [(1009, .mat (.int .i64) o1009_c none), (13, .row (.pair (.int .i64) (.pair (.sl (.int .i64)) (.unit))) ([plan2.getD t42_b.toNat ((0 : Int), (([] : List Int), ()))] : List (Int × List Int × Unit)))]⟩
def Sl49b (work0 : List (List Int)) (seats1 : Int) (plan2 : List (Int × List Int × Unit)) (t42_b : Int) (o1009_b : List (List Int)) : TS := ⟨slots 81 [(0, .dv (.sl (.sl (.int .i64))) work0), (1, .dv (.int .i64) seats1), (2, .dv (.sl (.pair (.int .i64) (.pair (.sl (.int .i64)) (.unit)))) plan2), (9, .row 1009), (40, .dv (.sl (.pair (.int .i64) (.pair (.sl (.int .i64)) (.unit)))) plan2), (41, .dv (.int .i64) (plan2.length : Int)), (42, .dv (.int .i64) t42_b)], [(1009, .mat (.int .i64) o1009_b none)]⟩
def Sl49a (work0 : List (List Int)) (seats1 : Int) (plan2 : List (Int × List Int × Unit)) (t30_a : Int) (left9_a : List (List Int)) : TS := ⟨slots 81 [(0, .dv (.sl (.sl (.int .i64))) work0), (1, .dv (.int .i64) seats1), (2, .dv (.sl (.pair (.int .i64) (.pair (.sl (.int .i64)) (.unit)))) plan2), (9, .row 1009), (28, .dv (.sl (.sl (.int .i64))) work0), (29, .dv (.int .i64) (work0.length : Int)), (30, .dv (.int .i64) t30_a)], [(1009, .mat (.int .i64) left9_a none)]⟩
noncomputable def K49_0 (a23 : (List (List Int)) → Int → Option (Int)) (a33c81 : (List Int) → Option (Bool)) (a34 : (List (List Int)) → Option (List Int)) (a79 : (Option (List Int)) → Option (List Int)) (a80 : (List (List Int)) → Int → (Int × List Int × Unit) → Option (Int)) (a82c83 : (List (Int × List Int × Unit)) → Option (Int)) (N : Nat) : Kont (Int × Int) := kont (E49 a23 a33c81 a34 a79 a80 a82c83) lv49 N c49 [1, 1, 1, 1, 0, 1, 0] (fin TI en49 (resOf Try.f49) dec49)
noncomputable def R49_0 (a23 : (List (List Int)) → Int → Option (Int)) (a33c81 : (List Int) → Option (Bool)) (a34 : (List (List Int)) → Option (List Int)) (a79 : (Option (List Int)) → Option (List Int)) (a80 : (List (List Int)) → Int → (Int × List Int × Unit) → Option (Int)) (a82c83 : (List (Int × List Int × Unit)) → Option (Int)) (N : Nat) (m : Nat) : TS → Option (Int × Int) := loopK (den (E49 a23 a33c81 a34 a79 a80 a82c83) lv49 N (sub c49 [1, 1, 1, 1, 0, 1, 0, 0])) (TS.norm nm49_0) (K49_0 a23 a33c81 a34 a79 a80 a82c83 N) m
noncomputable def K49_1 (a23 : (List (List Int)) → Int → Option (Int)) (a33c81 : (List Int) → Option (Bool)) (a34 : (List (List Int)) → Option (List Int)) (a79 : (Option (List Int)) → Option (List Int)) (a80 : (List (List Int)) → Int → (Int × List Int × Unit) → Option (Int)) (a82c83 : (List (Int × List Int × Unit)) → Option (Int)) (N : Nat) : Kont (Int × Int) := kont (E49 a23 a33c81 a34 a79 a80 a82c83) lv49 N c49 [1, 1, 1, 1, 1, 0, 1, 0] (fin TI en49 (resOf Try.f49) dec49)
noncomputable def R49_1 (a23 : (List (List Int)) → Int → Option (Int)) (a33c81 : (List Int) → Option (Bool)) (a34 : (List (List Int)) → Option (List Int)) (a79 : (Option (List Int)) → Option (List Int)) (a80 : (List (List Int)) → Int → (Int × List Int × Unit) → Option (Int)) (a82c83 : (List (Int × List Int × Unit)) → Option (Int)) (N : Nat) (m : Nat) : TS → Option (Int × Int) := loopK (den (E49 a23 a33c81 a34 a79 a80 a82c83) lv49 N (sub c49 [1, 1, 1, 1, 1, 0, 1, 0, 0])) (TS.norm nm49_1) (K49_1 a23 a33c81 a34 a79 a80 a82c83 N) m
noncomputable def K49_2 (a23 : (List (List Int)) → Int → Option (Int)) (a33c81 : (List Int) → Option (Bool)) (a34 : (List (List Int)) → Option (List Int)) (a79 : (Option (List Int)) → Option (List Int)) (a80 : (List (List Int)) → Int → (Int × List Int × Unit) → Option (Int)) (a82c83 : (List (Int × List Int × Unit)) → Option (Int)) (N : Nat) (T49_1 : TS → Option (Int × Int)) : Kont (Int × Int) := kont (E49 a23 a33c81 a34 a79 a80 a82c83) lv49 N (sub c49 [1, 1, 1, 1, 1, 0, 1, 0, 0]) [1, 1, 0, 0, 1, 1, 1, 0] (kloop (TS.norm nm49_1) (K49_1 a23 a33c81 a34 a79 a80 a82c83 N) T49_1)
noncomputable def R49_2 (a23 : (List (List Int)) → Int → Option (Int)) (a33c81 : (List Int) → Option (Bool)) (a34 : (List (List Int)) → Option (List Int)) (a79 : (Option (List Int)) → Option (List Int)) (a80 : (List (List Int)) → Int → (Int × List Int × Unit) → Option (Int)) (a82c83 : (List (Int × List Int × Unit)) → Option (Int)) (N : Nat) (T49_1 : TS → Option (Int × Int)) (m : Nat) : TS → Option (Int × Int) := loopK (den (E49 a23 a33c81 a34 a79 a80 a82c83) lv49 N (sub c49 [1, 1, 1, 1, 1, 0, 1, 0, 0, 1, 1, 0, 0, 1, 1, 1, 0, 0])) (TS.norm nm49_2) (K49_2 a23 a33c81 a34 a79 a80 a82c83 N T49_1) m
def l49c (a23 : (List (List Int)) → Int → Option (Int)) (a33c81 : (List Int) → Option (Bool)) (a34 : (List (List Int)) → Option (List Int)) (a79 : (Option (List Int)) → Option (List Int)) (a80 : (List (List Int)) → Int → (Int × List Int × Unit) → Option (Int)) (a82c83 : (List (Int × List Int × Unit)) → Option (Int)) (N : Nat) (work0 : List (List Int)) (seats1 : Int) (plan2 : List (Int × List Int × Unit)) (t42_b : Int) (rec_l49b : Int → (List (List Int)) → Option (Int × Int)) : Nat → Int → (List (List Int)) → Option (Int × Int)
 | 0, _, _ => none
 | n + 1, t56_c, o1009_c => cond (decide (t56_c < ((((plan2.getD t42_b.toNat ((0 : Int), (([] : List Int), ()))).2).1).length : Int))) (chk (decide (0 ≤ t56_c ∧ t56_c < ((((plan2.getD t42_b.toNat ((0 : Int), (([] : List Int), ()))).2).1).length : Int))) (cond (((((plan2.getD t42_b.toNat ((0 : Int), (([] : List Int), ()))).2).1).getD t56_c.toNat (0 : Int)) != (-1 : Int)) (chk (decide (0 ≤ t56_c ∧ t56_c < (o1009_c.length : Int))) (chk (decide (0 ≤ (((plan2.getD t42_b.toNat ((0 : Int), (([] : List Int), ()))).2).1).getD t56_c.toNat (0 : Int) ∧ (((plan2.getD t42_b.toNat ((0 : Int), (([] : List Int), ()))).2).1).getD t56_c.toNat (0 : Int) < ((o1009_c.getD t56_c.toNat ([] : List Int)).length : Int))) (chk (decide (0 ≤ (((plan2.getD t42_b.toNat ((0 : Int), (([] : List Int), ()))).2).1).getD t56_c.toNat (0 : Int) ∧ (((plan2.getD t42_b.toNat ((0 : Int), (([] : List Int), ()))).2).1).getD t56_c.toNat (0 : Int) < ((o1009_c.getD t56_c.toNat ([] : List Int)).length : Int))) ((l49c a23 a33c81 a34 a79 a80 a82c83 N work0 seats1 plan2 t42_b rec_l49b n (w64 (t56_c + (1 : Int))) (o1009_c.set t56_c.toNat ((o1009_c.getD t56_c.toNat ([] : List Int)).set (((((plan2.getD t42_b.toNat ((0 : Int), (([] : List Int), ()))).2).1).getD t56_c.toNat (0 : Int)).toNat) (w64 (((o1009_c.getD t56_c.toNat ([] : List Int)).getD (((((plan2.getD t42_b.toNat ((0 : Int), (([] : List Int), ()))).2).1).getD t56_c.toNat (0 : Int)).toNat) (0 : Int)) - ((plan2.getD t42_b.toNat ((0 : Int), (([] : List Int), ()))).1))))))))))
   ((l49c a23 a33c81 a34 a79 a80 a82c83 N work0 seats1 plan2 t42_b rec_l49b n (w64 (t56_c + (1 : Int))) o1009_c))))
   ((rec_l49b (w64 (t42_b + (1 : Int))) o1009_c))
theorem wl49c (a23 : (List (List Int)) → Int → Option (Int)) (a33c81 : (List Int) → Option (Bool)) (a34 : (List (List Int)) → Option (List Int)) (a79 : (Option (List Int)) → Option (List Int)) (a80 : (List (List Int)) → Int → (Int × List Int × Unit) → Option (Int)) (a82c83 : (List (Int × List Int × Unit)) → Option (Int)) (N : Nat) (work0 : List (List Int)) (seats1 : Int) (plan2 : List (Int × List Int × Unit)) (t42_b : Int) (T49_1 : TS → Option (Int × Int)) (m : Nat) (t56_c : Int) (o1009_c : List (List Int)) : R49_2 a23 a33c81 a34 a79 a80 a82c83 N T49_1 (m + 1) (Sl49c work0 seats1 plan2 t42_b t56_c o1009_c) = cond (decide (t56_c < ((((plan2.getD t42_b.toNat ((0 : Int), (([] : List Int), ()))).2).1).length : Int))) (chk (decide (0 ≤ t56_c ∧ t56_c < ((((plan2.getD t42_b.toNat ((0 : Int), (([] : List Int), ()))).2).1).length : Int))) (cond (((((plan2.getD t42_b.toNat ((0 : Int), (([] : List Int), ()))).2).1).getD t56_c.toNat (0 : Int)) != (-1 : Int)) (chk (decide (0 ≤ t56_c ∧ t56_c < (o1009_c.length : Int))) (chk (decide (0 ≤ (((plan2.getD t42_b.toNat ((0 : Int), (([] : List Int), ()))).2).1).getD t56_c.toNat (0 : Int) ∧ (((plan2.getD t42_b.toNat ((0 : Int), (([] : List Int), ()))).2).1).getD t56_c.toNat (0 : Int) < ((o1009_c.getD t56_c.toNat ([] : List Int)).length : Int))) (chk (decide (0 ≤ (((plan2.getD t42_b.toNat ((0 : Int), (([] : List Int), ()))).2).1).getD t56_c.toNat (0 : Int) ∧ (((plan2.getD t42_b.toNat ((0 : Int), (([] : List Int), ()))).2).1).getD t56_c.toNat (0 : Int) < ((o1009_c.getD t56_c.toNat ([] : List Int)).length : Int))) ((R49_2 a23 a33c81 a34 a79 a80 a82c83 N T49_1 m (Sl49c work0 seats1 plan2 t42_b (w64 (t56_c + (1 : Int))) (o1009_c.set t56_c.toNat ((o1009_c.getD t56_c.toNat ([] : List Int)).set (((((plan2.getD t42_b.toNat ((0 : Int), (([] : List Int), ()))).2).1).getD t56_c.toNat (0 : Int)).toNat) (w64 (((o1009_c.getD t56_c.toNat ([] : List Int)).getD (((((plan2.getD t42_b.toNat ((0 : Int), (([] : List Int), ()))).2).1).getD t56_c.toNat (0 : Int)).toNat) (0 : Int)) - ((plan2.getD t42_b.toNat ((0 : Int), (([] : List Int), ()))).1)))))))))))
   ((R49_2 a23 a33c81 a34 a79 a80 a82c83 N T49_1 m (Sl49c work0 seats1 plan2 t42_b (w64 (t56_c + (1 : Int))) o1009_c)))))
   ((T49_1 (Sl49b work0 seats1 plan2 (w64 (t42_b + (1 : Int))) o1009_c))) := by kernel_rfl
theorem ql49c (a23 : (List (List Int)) → Int → Option (Int)) (a33c81 : (List Int) → Option (Bool)) (a34 : (List (List Int)) → Option (List Int)) (a79 : (Option (List Int)) → Option (List Int)) (a80 : (List (List Int)) → Int → (Int × List Int × Unit) → Option (Int)) (a82c83 : (List (Int × List Int × Unit)) → Option (Int)) (N : Nat) (work0 : List (List Int)) (seats1 : Int) (plan2 : List (Int × List Int × Unit)) (t42_b : Int) (T49_1 : TS → Option (Int × Int)) : ∀ (m : Nat) (t56_c : Int) (o1009_c : List (List Int)), R49_2 a23 a33c81 a34 a79 a80 a82c83 N T49_1 m (Sl49c work0 seats1 plan2 t42_b t56_c o1009_c) = l49c a23 a33c81 a34 a79 a80 a82c83 N work0 seats1 plan2 t42_b (fun y0 y1 => T49_1 (Sl49b work0 seats1 plan2 y0 y1)) m t56_c o1009_c
        | 0, _, _ => rfl
        | m + 1, t56_c, o1009_c => by rw [wl49c]; simp only [l49c, ql49c a23 a33c81 a34 a79 a80 a82c83 N work0 seats1 plan2 t42_b T49_1 m]
def l49b (a23 : (List (List Int)) → Int → Option (Int)) (a33c81 : (List Int) → Option (Bool)) (a34 : (List (List Int)) → Option (List Int)) (a79 : (Option (List Int)) → Option (List Int)) (a80 : (List (List Int)) → Int → (Int × List Int × Unit) → Option (Int)) (a82c83 : (List (Int × List Int × Unit)) → Option (Int)) (N : Nat) (work0 : List (List Int)) (seats1 : Int) (plan2 : List (Int × List Int × Unit)) : Nat → Int → (List (List Int)) → Option (Int × Int)
 | 0, _, _ => none
 | n + 1, t42_b, o1009_b => cond (decide (t42_b < (plan2.length : Int))) (chk (decide (0 ≤ t42_b ∧ t42_b < (plan2.length : Int))) ((a80 work0 seats1 (plan2.getD t42_b.toNat ((0 : Int), (([] : List Int), ())))).bind fun r3 =>
   cond (r3 != (0 : Int)) (some ((0 : Int), r3))
   ((l49c a23 a33c81 a34 a79 a80 a82c83 N work0 seats1 plan2 t42_b (fun y0 y1 => (l49b a23 a33c81 a34 a79 a80 a82c83 N work0 seats1 plan2 n y0 y1)) N (0 : Int) o1009_b))))
   ((a34 o1009_b).bind fun r4 =>
   (a33c81 r4).bind fun r5 =>
   cond (r5) (some ((0 : Int), (13 : Int)))
   ((a82c83 plan2).bind fun r6 =>
   some (r6, (0 : Int))))
theorem wl49b (a23 : (List (List Int)) → Int → Option (Int)) (a33c81 : (List Int) → Option (Bool)) (a34 : (List (List Int)) → Option (List Int)) (a79 : (Option (List Int)) → Option (List Int)) (a80 : (List (List Int)) → Int → (Int × List Int × Unit) → Option (Int)) (a82c83 : (List (Int × List Int × Unit)) → Option (Int)) (N : Nat) (work0 : List (List Int)) (seats1 : Int) (plan2 : List (Int × List Int × Unit)) (m : Nat) (t42_b : Int) (o1009_b : List (List Int)) : R49_1 a23 a33c81 a34 a79 a80 a82c83 N (m + 1) (Sl49b work0 seats1 plan2 t42_b o1009_b) = cond (decide (t42_b < (plan2.length : Int))) (chk (decide (0 ≤ t42_b ∧ t42_b < (plan2.length : Int))) ((a80 work0 seats1 (plan2.getD t42_b.toNat ((0 : Int), (([] : List Int), ())))).bind fun r3 =>
   cond (r3 != (0 : Int)) (some ((0 : Int), r3))
   ((R49_2 a23 a33c81 a34 a79 a80 a82c83 N (R49_1 a23 a33c81 a34 a79 a80 a82c83 N m) N (Sl49c work0 seats1 plan2 t42_b (0 : Int) o1009_b)))))
   ((a34 o1009_b).bind fun r4 =>
   (a33c81 r4).bind fun r5 =>
   cond (r5) (some ((0 : Int), (13 : Int)))
   ((a82c83 plan2).bind fun r6 =>
   some (r6, (0 : Int)))) := by kernel_rfl
theorem ql49b (a23 : (List (List Int)) → Int → Option (Int)) (a33c81 : (List Int) → Option (Bool)) (a34 : (List (List Int)) → Option (List Int)) (a79 : (Option (List Int)) → Option (List Int)) (a80 : (List (List Int)) → Int → (Int × List Int × Unit) → Option (Int)) (a82c83 : (List (Int × List Int × Unit)) → Option (Int)) (N : Nat) (work0 : List (List Int)) (seats1 : Int) (plan2 : List (Int × List Int × Unit)) : ∀ (m : Nat) (t42_b : Int) (o1009_b : List (List Int)), R49_1 a23 a33c81 a34 a79 a80 a82c83 N m (Sl49b work0 seats1 plan2 t42_b o1009_b) = l49b a23 a33c81 a34 a79 a80 a82c83 N work0 seats1 plan2 m t42_b o1009_b
        | 0, _, _ => rfl
        | m + 1, t42_b, o1009_b => by rw [wl49b]; simp only [l49b, ql49c, ql49b a23 a33c81 a34 a79 a80 a82c83 N work0 seats1 plan2 m]
def l49a (a23 : (List (List Int)) → Int → Option (Int)) (a33c81 : (List Int) → Option (Bool)) (a34 : (List (List Int)) → Option (List Int)) (a79 : (Option (List Int)) → Option (List Int)) (a80 : (List (List Int)) → Int → (Int × List Int × Unit) → Option (Int)) (a82c83 : (List (Int × List Int × Unit)) → Option (Int)) (N : Nat) (work0 : List (List Int)) (seats1 : Int) (plan2 : List (Int × List Int × Unit)) : Nat → Int → (List (List Int)) → Option (Int × Int)
 | 0, _, _ => none
 | n + 1, t30_a, left9_a => cond (decide (t30_a < (work0.length : Int))) (chk (decide (0 ≤ t30_a ∧ t30_a < (work0.length : Int))) (chk ((decide (0 < (work0.getD t30_a.toNat ([] : List Int)).length)) && (true)) ((a79 (some (work0.getD t30_a.toNat ([] : List Int)))).bind fun r2 =>
   chk (small (left9_a.length + 1) 24) ((l49a a23 a33c81 a34 a79 a80 a82c83 N work0 seats1 plan2 n (w64 (t30_a + (1 : Int))) (left9_a ++ ([r2] : List (List Int))))))))
   ((l49b a23 a33c81 a34 a79 a80 a82c83 N work0 seats1 plan2 N (0 : Int) left9_a))
theorem wl49a (a23 : (List (List Int)) → Int → Option (Int)) (a33c81 : (List Int) → Option (Bool)) (a34 : (List (List Int)) → Option (List Int)) (a79 : (Option (List Int)) → Option (List Int)) (a80 : (List (List Int)) → Int → (Int × List Int × Unit) → Option (Int)) (a82c83 : (List (Int × List Int × Unit)) → Option (Int)) (N : Nat) (work0 : List (List Int)) (seats1 : Int) (plan2 : List (Int × List Int × Unit)) (m : Nat) (t30_a : Int) (left9_a : List (List Int)) : R49_0 a23 a33c81 a34 a79 a80 a82c83 N (m + 1) (Sl49a work0 seats1 plan2 t30_a left9_a) = cond (decide (t30_a < (work0.length : Int))) (chk (decide (0 ≤ t30_a ∧ t30_a < (work0.length : Int))) (chk ((decide (0 < (work0.getD t30_a.toNat ([] : List Int)).length)) && (true)) ((a79 (some (work0.getD t30_a.toNat ([] : List Int)))).bind fun r2 =>
   chk (small (left9_a.length + 1) 24) ((R49_0 a23 a33c81 a34 a79 a80 a82c83 N m (Sl49a work0 seats1 plan2 (w64 (t30_a + (1 : Int))) (left9_a ++ ([r2] : List (List Int)))))))))
   ((R49_1 a23 a33c81 a34 a79 a80 a82c83 N N (Sl49b work0 seats1 plan2 (0 : Int) left9_a))) := by kernel_rfl
theorem ql49a (a23 : (List (List Int)) → Int → Option (Int)) (a33c81 : (List Int) → Option (Bool)) (a34 : (List (List Int)) → Option (List Int)) (a79 : (Option (List Int)) → Option (List Int)) (a80 : (List (List Int)) → Int → (Int × List Int × Unit) → Option (Int)) (a82c83 : (List (Int × List Int × Unit)) → Option (Int)) (N : Nat) (work0 : List (List Int)) (seats1 : Int) (plan2 : List (Int × List Int × Unit)) : ∀ (m : Nat) (t30_a : Int) (left9_a : List (List Int)), R49_0 a23 a33c81 a34 a79 a80 a82c83 N m (Sl49a work0 seats1 plan2 t30_a left9_a) = l49a a23 a33c81 a34 a79 a80 a82c83 N work0 seats1 plan2 m t30_a left9_a
        | 0, _, _ => rfl
        | m + 1, t30_a, left9_a => by rw [wl49a]; simp only [l49a, ql49b, ql49a a23 a33c81 a34 a79 a80 a82c83 N work0 seats1 plan2 m]
def m49 (a23 : (List (List Int)) → Int → Option (Int)) (a33c81 : (List Int) → Option (Bool)) (a34 : (List (List Int)) → Option (List Int)) (a79 : (Option (List Int)) → Option (List Int)) (a80 : (List (List Int)) → Int → (Int × List Int × Unit) → Option (Int)) (a82c83 : (List (Int × List Int × Unit)) → Option (Int)) (N : Nat) (work0 : List (List Int)) (seats1 : Int) (plan2 : List (Int × List Int × Unit)) : Option (Int × Int) :=
   (a23 work0 seats1).bind fun r1 =>
   cond (r1 != (0 : Int)) (some ((0 : Int), r1))
   (cond (decide ((plan2.length : Int) > (200 : Int))) (some ((0 : Int), (2 : Int)))
   ((l49a a23 a33c81 a34 a79 a80 a82c83 N work0 seats1 plan2 N (0 : Int) ([] : List (List Int)))))
theorem wm49 (a23 : (List (List Int)) → Int → Option (Int)) (a33c81 : (List Int) → Option (Bool)) (a34 : (List (List Int)) → Option (List Int)) (a79 : (Option (List Int)) → Option (List Int)) (a80 : (List (List Int)) → Int → (Int × List Int × Unit) → Option (Int)) (a82c83 : (List (Int × List Int × Unit)) → Option (Int)) (N : Nat) (work0 : List (List Int)) (seats1 : Int) (plan2 : List (Int × List Int × Unit)) : callF (E49 a23 a33c81 a34 a79 a80 a82c83) lv49 N en49 c49 (resOf Try.f49) 78 [.dv (.sl (.sl (.int .i64))) work0, .dv (.int .i64) seats1, .dv (.sl (.pair (.int .i64) (.pair (.sl (.int .i64)) (.unit)))) plan2] [] dec49 = (a23 work0 seats1).bind fun r1 =>
   cond (r1 != (0 : Int)) (some ((0 : Int), r1))
   (cond (decide ((plan2.length : Int) > (200 : Int))) (some ((0 : Int), (2 : Int)))
   ((R49_0 a23 a33c81 a34 a79 a80 a82c83 N N (Sl49a work0 seats1 plan2 (0 : Int) ([] : List (List Int)))))) := by kernel_rfl
theorem k49 (a23 : (List (List Int)) → Int → Option (Int)) (a33c81 : (List Int) → Option (Bool)) (a34 : (List (List Int)) → Option (List Int)) (a79 : (Option (List Int)) → Option (List Int)) (a80 : (List (List Int)) → Int → (Int × List Int × Unit) → Option (Int)) (a82c83 : (List (Int × List Int × Unit)) → Option (Int)) (N : Nat) (work0 : List (List Int)) (seats1 : Int) (plan2 : List (Int × List Int × Unit)) : callF (E49 a23 a33c81 a34 a79 a80 a82c83) lv49 N en49 c49 (resOf Try.f49) 78 [.dv (.sl (.sl (.int .i64))) work0, .dv (.int .i64) seats1, .dv (.sl (.pair (.int .i64) (.pair (.sl (.int .i64)) (.unit)))) plan2] [] dec49 = m49 a23 a33c81 a34 a79 a80 a82c83 N work0 seats1 plan2 := by rw [wm49]; simp only [m49, ql49a]
theorem ok49 (a23 : (List (List Int)) → Int → Option (Int)) (a33c81 : (List Int) → Option (Bool)) (a34 : (List (List Int)) → Option (List Int)) (a79 : (Option (List Int)) → Option (List Int)) (a80 : (List (List Int)) → Int → (Int × List Int × Unit) → Option (Int)) (a82c83 : (List (Int × List Int × Unit)) → Option (Int)) (h23 : FnOk Try.prog 23 (F23 a23)) (h33c81 : FnOk Try.prog 33 (F33c81 a33c81)) (h34 : FnOk Try.prog 34 (F34 a34)) (h79 : FnOk Try.prog 79 (F79 a79)) (h80 : FnOk Try.prog 80 (F80 a80)) (h82c83 : FnOk Try.prog 82 (F82c83 a82c83)) (a : (List (List Int)) → Int → (List (Int × List Int × Unit)) → Option (Int × Int)) (h : ∀ work0 seats1 plan2 r, a work0 seats1 plan2 = some r → (∃ N, m49 a23 a33c81 a34 a79 a80 a82c83 N work0 seats1 plan2 = some r)) : FnOk Try.prog 49 (F49 a) := by
 intro args Of x hx
 simp only [F49] at hx
 split at hx
 ·rename_i work0 seats1 plan2
  obtain ⟨N, hN⟩ := h _ _ _ _ hx
  refine lifted (L := [(23, F23 a23), (33, F33c81 a33c81), (34, F34 a34), (79, F79 a79), (80, F80 a80), (82, F82c83 a82c83)]) (rc := nrc) (fz := (fun i => ([37] : List Nat).contains i)) (fn := Try.f49) (by kernel_rfl) (by kernel_rfl) (by kernel_rfl) (by kernel_rfl) rfl ?_ ((k49 a23 a33c81 a34 a79 a80 a82c83 N _ _ _).trans hN) ?_
  ·intro p hp; simp only [List.mem_cons, List.not_mem_nil, or_false] at hp; rcases hp with rfl | rfl | rfl | rfl | rfl | rfl
   ·exact h23
   ·exact h33c81
   ·exact h34
   ·exact h79
   ·exact h80
   ·exact h82c83
  ·intro l o hd
   simp only [dec49] at hd
   split at hd
   ·obtain rfl := oij hd; exact ⟨rfl, rfl⟩
   ·cases hd
 ·cases hx
def E19 (a49 : (List (List Int)) → Int → (List (Int × List Int × Unit)) → Option (Int × Int)) (a7 : (List (List Int)) → Int → Option (Int × Int)) : Env := mkE TI TY [(49, F49 a49), (7, F7 a7)] nrc nfz
noncomputable def c19 : Code := bodyOf Try.f19
def lv19 : Nat → Option Norm := norms []
def en19 : End := ⟨[], ⟨[30], [], [], []⟩⟩
def dec19 (l : List TV) (o : List (Nat × TO)) : Option (Int) := match l, o with | [.dv (.int .i64) x0], [] => some (x0) | _, _ => none
def m19 (a49 : (List (List Int)) → Int → (List (Int × List Int × Unit)) → Option (Int × Int)) (a7 : (List (List Int)) → Int → Option (Int × Int)) (N : Nat) (work0 : List (List Int)) (seats1 : Int) (plan2 : List (Int × List Int × Unit)) : Option (Int) :=
   (a49 work0 seats1 plan2).bind fun r1 =>
   cond (r1.2 != (0 : Int)) (some r1.2)
   ((a7 work0 seats1).bind fun r2 =>
   cond (decide (r1.1 > r2.1)) (some (14 : Int))
   (some (0 : Int)))
theorem k19 (a49 : (List (List Int)) → Int → (List (Int × List Int × Unit)) → Option (Int × Int)) (a7 : (List (List Int)) → Int → Option (Int × Int)) (N : Nat) (work0 : List (List Int)) (seats1 : Int) (plan2 : List (Int × List Int × Unit)) : callF (E19 a49 a7) lv19 N en19 c19 (resOf Try.f19) 27 [.dv (.sl (.sl (.int .i64))) work0, .dv (.int .i64) seats1, .dv (.sl (.pair (.int .i64) (.pair (.sl (.int .i64)) (.unit)))) plan2] [] dec19 = m19 a49 a7 N work0 seats1 plan2 := by kernel_rfl
theorem ok19 (a49 : (List (List Int)) → Int → (List (Int × List Int × Unit)) → Option (Int × Int)) (a7 : (List (List Int)) → Int → Option (Int × Int)) (h49 : FnOk Try.prog 49 (F49 a49)) (h7 : FnOk Try.prog 7 (F7 a7)) (a : (List (List Int)) → Int → (List (Int × List Int × Unit)) → Option (Int)) (h : ∀ work0 seats1 plan2 r, a work0 seats1 plan2 = some r → (∃ N, m19 a49 a7 N work0 seats1 plan2 = some r)) : FnOk Try.prog 19 (F19 a) := by
 intro args Of x hx
 simp only [F19] at hx
 split at hx
 ·rename_i work0 seats1 plan2
  obtain ⟨N, hN⟩ := h _ _ _ _ hx
  refine lifted (L := [(49, F49 a49), (7, F7 a7)]) (rc := nrc) (fz := nfz) (fn := Try.f19) (by kernel_rfl) (by kernel_rfl) (by kernel_rfl) (by kernel_rfl) rfl ?_ ((k19 a49 a7 N _ _ _).trans hN) ?_
  ·intro p hp; simp only [List.mem_cons, List.not_mem_nil, or_false] at hp; rcases hp with rfl | rfl
   ·exact h49
   ·exact h7
  ·intro l o hd
   simp only [dec19] at hd
   split at hd
   ·obtain rfl := oij hd; exact ⟨rfl, rfl⟩
   ·cases hd
 ·cases hx
def E52 (a13 : (List (List Int)) → Option (Int)) (a84 : (List (List Int)) → (List Int) → Option (Int)) : Env := mkE TI TY [(13, F13 a13), (84, F84 a84)] nrc nfz
noncomputable def c52 : Code := bodyOf Try.f52
def lv52 : Nat → Option Norm := norms []
def en52 : End := ⟨[], ⟨[17], [], [], []⟩⟩
def dec52 (l : List TV) (o : List (Nat × TO)) : Option (Int) := match l, o with | [.dv (.int .i64) x0], [] => some (x0) | _, _ => none
def m52 (a13 : (List (List Int)) → Option (Int)) (a84 : (List (List Int)) → (List Int) → Option (Int)) (N : Nat) (t0 : List (List Int)) (code1 : List Int) : Option (Int) :=
   (a13 t0).bind fun r1 =>
   cond (r1 != (0 : Int)) (some r1)
   (cond (decide ((code1.length : Int) < (2 : Int))) (some (1 : Int))
   ((a84 t0 code1).bind fun r2 =>
   some r2))
theorem k52 (a13 : (List (List Int)) → Option (Int)) (a84 : (List (List Int)) → (List Int) → Option (Int)) (N : Nat) (t0 : List (List Int)) (code1 : List Int) : callF (E52 a13 a84) lv52 N en52 c52 (resOf Try.f52) 15 [.dv (.sl (.sl (.int .i64))) t0, .dv (.sl (.int .i64)) code1] [] dec52 = m52 a13 a84 N t0 code1 := by kernel_rfl
theorem ok52 (a13 : (List (List Int)) → Option (Int)) (a84 : (List (List Int)) → (List Int) → Option (Int)) (h13 : FnOk Try.prog 13 (F13 a13)) (h84 : FnOk Try.prog 84 (F84 a84)) (a : (List (List Int)) → (List Int) → Option (Int)) (h : ∀ t0 code1 r, a t0 code1 = some r → (∃ N, m52 a13 a84 N t0 code1 = some r)) : FnOk Try.prog 52 (F52 a) := by
 intro args Of x hx
 simp only [F52] at hx
 split at hx
 ·rename_i t0 code1
  obtain ⟨N, hN⟩ := h _ _ _ hx
  refine lifted (L := [(13, F13 a13), (84, F84 a84)]) (rc := nrc) (fz := nfz) (fn := Try.f52) (by kernel_rfl) (by kernel_rfl) (by kernel_rfl) (by kernel_rfl) rfl ?_ ((k52 a13 a84 N _ _).trans hN) ?_
  ·intro p hp; simp only [List.mem_cons, List.not_mem_nil, or_false] at hp; rcases hp with rfl | rfl
   ·exact h13
   ·exact h84
  ·intro l o hd
   simp only [dec52] at hd
   split at hd
   ·obtain rfl := oij hd; exact ⟨rfl, rfl⟩
   ·cases hd
 ·cases hx
def E21 (a52 : (List (List Int)) → (List Int) → Option (Int)) (a53 : (List (List Int)) → Int → (List Int) → Option (Int)) : Env := mkE TI TY [(52, F52 a52), (53, F53 a53)] nrc nfz
noncomputable def c21 : Code := bodyOf Try.f21
def lv21 : Nat → Option Norm := norms []
def en21 : End := ⟨[], ⟨[18], [], [], []⟩⟩
def dec21 (l : List TV) (o : List (Nat × TO)) : Option (Int) := match l, o with | [.dv (.int .i64) x0], [] => some (x0) | _, _ => none
def m21 (a52 : (List (List Int)) → (List Int) → Option (Int)) (a53 : (List (List Int)) → Int → (List Int) → Option (Int)) (N : Nat) (table0 : List (List Int)) (code1 : List Int) : Option (Int) :=
   (a52 table0 code1).bind fun r1 =>
   cond (r1 == (0 : Int)) ((a53 table0 (0 : Int) code1).bind fun r2 =>
   cond (r2 != (0 : Int)) (some (13 : Int))
   (some r1))
   (some r1)
theorem k21 (a52 : (List (List Int)) → (List Int) → Option (Int)) (a53 : (List (List Int)) → Int → (List Int) → Option (Int)) (N : Nat) (table0 : List (List Int)) (code1 : List Int) : callF (E21 a52 a53) lv21 N en21 c21 (resOf Try.f21) 16 [.dv (.sl (.sl (.int .i64))) table0, .dv (.sl (.int .i64)) code1] [] dec21 = m21 a52 a53 N table0 code1 := by kernel_rfl
theorem ok21 (a52 : (List (List Int)) → (List Int) → Option (Int)) (a53 : (List (List Int)) → Int → (List Int) → Option (Int)) (h52 : FnOk Try.prog 52 (F52 a52)) (h53 : FnOk Try.prog 53 (F53 a53)) (a : (List (List Int)) → (List Int) → Option (Int)) (h : ∀ table0 code1 r, a table0 code1 = some r → (∃ N, m21 a52 a53 N table0 code1 = some r)) : FnOk Try.prog 21 (F21 a) := by
 intro args Of x hx
 simp only [F21] at hx
 split at hx
 ·rename_i table0 code1
  obtain ⟨N, hN⟩ := h _ _ _ hx
  refine lifted (L := [(52, F52 a52), (53, F53 a53)]) (rc := nrc) (fz := nfz) (fn := Try.f21) (by kernel_rfl) (by kernel_rfl) (by kernel_rfl) (by kernel_rfl) rfl ?_ ((k21 a52 a53 N _ _).trans hN) ?_
  ·intro p hp; simp only [List.mem_cons, List.not_mem_nil, or_false] at hp; rcases hp with rfl | rfl
   ·exact h52
   ·exact h53
  ·intro l o hd
   simp only [dec21] at hd
   split at hd
   ·obtain rfl := oij hd; exact ⟨rfl, rfl⟩
   ·cases hd
 ·cases hx
def E54 (a52 : (List (List Int)) → (List Int) → Option (Int)) (a53 : (List (List Int)) → Int → (List Int) → Option (Int)) : Env := mkE TI TY [(52, F52 a52), (53, F53 a53)] nrc nfz
noncomputable def c54 : Code := bodyOf Try.f54
def lv54 : Nat → Option Norm := norms []
def en54 : End := ⟨[], ⟨[18], [], [], []⟩⟩
def dec54 (l : List TV) (o : List (Nat × TO)) : Option (Int) := match l, o with | [.dv (.int .i64) x0], [] => some (x0) | _, _ => none
def m54 (a52 : (List (List Int)) → (List Int) → Option (Int)) (a53 : (List (List Int)) → Int → (List Int) → Option (Int)) (N : Nat) (t0 : List (List Int)) (code1 : List Int) : Option (Int) :=
   (a52 t0 code1).bind fun r1 =>
   cond (r1 == (0 : Int)) ((a53 t0 (0 : Int) code1).bind fun r2 =>
   cond (r2 == (0 : Int)) (some (20 : Int))
   (some r1))
   (some r1)
theorem k54 (a52 : (List (List Int)) → (List Int) → Option (Int)) (a53 : (List (List Int)) → Int → (List Int) → Option (Int)) (N : Nat) (t0 : List (List Int)) (code1 : List Int) : callF (E54 a52 a53) lv54 N en54 c54 (resOf Try.f54) 16 [.dv (.sl (.sl (.int .i64))) t0, .dv (.sl (.int .i64)) code1] [] dec54 = m54 a52 a53 N t0 code1 := by kernel_rfl
theorem ok54 (a52 : (List (List Int)) → (List Int) → Option (Int)) (a53 : (List (List Int)) → Int → (List Int) → Option (Int)) (h52 : FnOk Try.prog 52 (F52 a52)) (h53 : FnOk Try.prog 53 (F53 a53)) (a : (List (List Int)) → (List Int) → Option (Int)) (h : ∀ t0 code1 r, a t0 code1 = some r → (∃ N, m54 a52 a53 N t0 code1 = some r)) : FnOk Try.prog 54 (F54 a) := by
 intro args Of x hx
 simp only [F54] at hx
 split at hx
 ·rename_i t0 code1
  obtain ⟨N, hN⟩ := h _ _ _ hx
  refine lifted (L := [(52, F52 a52), (53, F53 a53)]) (rc := nrc) (fz := nfz) (fn := Try.f54) (by kernel_rfl) (by kernel_rfl) (by kernel_rfl) (by kernel_rfl) rfl ?_ ((k54 a52 a53 N _ _).trans hN) ?_
  ·intro p hp; simp only [List.mem_cons, List.not_mem_nil, or_false] at hp; rcases hp with rfl | rfl
   ·exact h52
   ·exact h53
  ·intro l o hd
   simp only [dec54] at hd
   split at hd
   ·obtain rfl := oij hd; exact ⟨rfl, rfl⟩
   ·cases hd
 ·cases hx
def E87c (a53 : (List (List Int)) → Int → (List Int) → Option (Int)) : Env := mkE TI TY [(53, F53 a53)] nrc nfz
noncomputable def c87c : Code := bodyOf Try.f87
def lv87c : Nat → Option Norm := norms []
def en87c : End := ⟨[], ⟨[14], [9000, 9001, 9002], [], []⟩⟩
def dec87c (l : List TV) (o : List (Nat × TO)) : Option (Bool × List (List Int) × List Int × Int) := match l, o with | [.dv (.bool) x0], [(9000, .rcd [.dv (.sl (.sl (.int .i64))) x1]), (9001, .rcd [.dv (.sl (.int .i64)) x2]), (9002, .rcd [.dv (.int .i64) x3])] => some (x0, x1, x2, x3) | _, _ => none
def m87c (a53 : (List (List Int)) → Int → (List Int) → Option (Int)) (N : Nat) (next0 : Int) (p1 : List (List Int)) (p2 : List Int) (p3 : Int) : Option (Bool × List (List Int) × List Int × Int) :=
   chk (decide (0 ≤ w64 (p3 + (1 : Int)) ∧ w64 (p3 + (1 : Int)) ≤ (p2.length : Int))) ((a53 p1 next0 (p2.drop ((w64 (p3 + (1 : Int))).toNat))).bind fun r1 =>
   some (r1 == (0 : Int), p1, p2, p3))
theorem k87c (a53 : (List (List Int)) → Int → (List Int) → Option (Int)) (N : Nat) (next0 : Int) (p1 : List (List Int)) (p2 : List Int) (p3 : Int) : callF (E87c a53) lv87c N en87c c87c (resOf Try.f87) 10 [.dv (.int .i64) next0, .ptr 9000 0 [0], .ptr 9001 0 [0], .ptr 9002 0 [0]] [(9000, .rcd [.dv (.sl (.sl (.int .i64))) p1]), (9001, .rcd [.dv (.sl (.int .i64)) p2]), (9002, .rcd [.dv (.int .i64) p3])] dec87c = m87c a53 N next0 p1 p2 p3 := by kernel_rfl
theorem ok87c (a53 : (List (List Int)) → Int → (List Int) → Option (Int)) (h53 : FnOk Try.prog 53 (F53 a53)) (a : Int → (List (List Int)) → (List Int) → Int → Option (Bool × List (List Int) × List Int × Int)) (h : ∀ next0 p1 p2 p3 r, a next0 p1 p2 p3 = some r → (∃ N, m87c a53 N next0 p1 p2 p3 = some r)) : FnOk Try.prog 87 (F87c a) := by
 intro args Of x hx
 simp only [F87c] at hx
 split at hx
 ·rename_i next0 p1 p2 p3
  obtain ⟨N, hN⟩ := h _ _ _ _ _ hx
  refine lifted (L := [(53, F53 a53)]) (rc := nrc) (fz := nfz) (fn := Try.f87) (by kernel_rfl) (by kernel_rfl) (by kernel_rfl) (by kernel_rfl) rfl ?_ ((k87c a53 N _ _ _ _).trans hN) ?_
  ·intro p hp; simp only [List.mem_cons, List.not_mem_nil, or_false] at hp; rcases hp with rfl; exact h53
  ·intro l o hd
   simp only [dec87c] at hd
   split at hd
   ·obtain rfl := oij hd; exact ⟨rfl, rfl⟩
   ·cases hd
 ·cases hx
def E68c87 (a87c : Int → (List (List Int)) → (List Int) → Int → Option (Bool × List (List Int) × List Int × Int)) : Env := mkE TI TY [(87, F87c a87c)] nrc nfz
noncomputable def c68c87 : Code := bodyOf Try.f68
def nm68c87_0 : Norm := ⟨[0, 1, 7, 8], [9000, 9001, 9002], [], []⟩
def lv68c87 : Nat → Option Norm := norms [(2, nm68c87_0)]
def en68c87 : End := ⟨[], ⟨[19], [9000, 9001, 9002], [], []⟩⟩
def dec68c87 (l : List TV) (o : List (Nat × TO)) : Option (Int × List (List Int) × List Int × Int) := match l, o with | [.dv (.int .i64) x0], [(9000, .rcd [.dv (.sl (.sl (.int .i64))) x1]), (9001, .rcd [.dv (.sl (.int .i64)) x2]), (9002, .rcd [.dv (.int .i64) x3])] => some (x0, x1, x2, x3) | _, _ => none
def Sl68c87a (s0 : List Int) (t8_a : Int) (o9000_af0 : List (List Int)) (o9001_af0 : List Int) (o9002_af0 : Int) : TS := ⟨slots 19 [(0, .dv (.sl (.int .i64)) s0), (1, .fn 87 0 3 fun i => ([.ptr 9000 0 [0], .ptr 9001 0 [0], .ptr 9002 0 [0]] : List TV).getD i .any), (7, .dv (.int .i64) (s0.length : Int)), (8, .dv (.int .i64) t8_a)], [(9000, .rcd [.dv (.sl (.sl (.int .i64))) o9000_af0]), (9001, .rcd [.dv (.sl (.int .i64)) o9001_af0]), (9002, .rcd [.dv (.int .i64) o9002_af0])]⟩
noncomputable def K68c87_0 (a87c : Int → (List (List Int)) → (List Int) → Int → Option (Bool × List (List Int) × List Int × Int)) (N : Nat) : Kont (Int × List (List Int) × List Int × Int) := kont (E68c87 a87c) lv68c87 N c68c87 [1, 0, 1, 0] (fin TI en68c87 (resOf Try.f68) dec68c87)
noncomputable def R68c87_0 (a87c : Int → (List (List Int)) → (List Int) → Int → Option (Bool × List (List Int) × List Int × Int)) (N : Nat) (m : Nat) : TS → Option (Int × List (List Int) × List Int × Int) := loopK (den (E68c87 a87c) lv68c87 N (sub c68c87 [1, 0, 1, 0, 0])) (TS.norm nm68c87_0) (K68c87_0 a87c N) m
def l68c87a (a87c : Int → (List (List Int)) → (List Int) → Int → Option (Bool × List (List Int) × List Int × Int)) (N : Nat) (s0 : List Int) : Nat → Int → (List (List Int)) → (List Int) → Int → Option (Int × List (List Int) × List Int × Int)
 | 0, _, _, _, _ => none
 | n + 1, t8_a, o9000_af0, o9001_af0, o9002_af0 => cond (decide (t8_a < (s0.length : Int))) (chk (decide (0 ≤ t8_a ∧ t8_a < (s0.length : Int))) ((a87c (s0.getD t8_a.toNat (0 : Int)) o9000_af0 o9001_af0 o9002_af0).bind fun r1 =>
   cond (r1.1) (some (t8_a, r1.2.1, r1.2.2.1, r1.2.2.2))
   ((l68c87a a87c N s0 n (w64 (t8_a + (1 : Int))) r1.2.1 r1.2.2.1 r1.2.2.2))))
   (some ((-1 : Int), o9000_af0, o9001_af0, o9002_af0))
theorem wl68c87a (a87c : Int → (List (List Int)) → (List Int) → Int → Option (Bool × List (List Int) × List Int × Int)) (N : Nat) (s0 : List Int) (m : Nat) (t8_a : Int) (o9000_af0 : List (List Int)) (o9001_af0 : List Int) (o9002_af0 : Int) : R68c87_0 a87c N (m + 1) (Sl68c87a s0 t8_a o9000_af0 o9001_af0 o9002_af0) = cond (decide (t8_a < (s0.length : Int))) (chk (decide (0 ≤ t8_a ∧ t8_a < (s0.length : Int))) ((a87c (s0.getD t8_a.toNat (0 : Int)) o9000_af0 o9001_af0 o9002_af0).bind fun r1 =>
   cond (r1.1) (some (t8_a, r1.2.1, r1.2.2.1, r1.2.2.2))
   ((R68c87_0 a87c N m (Sl68c87a s0 (w64 (t8_a + (1 : Int))) r1.2.1 r1.2.2.1 r1.2.2.2)))))
   (some ((-1 : Int), o9000_af0, o9001_af0, o9002_af0)) := by kernel_rfl
theorem ql68c87a (a87c : Int → (List (List Int)) → (List Int) → Int → Option (Bool × List (List Int) × List Int × Int)) (N : Nat) (s0 : List Int) : ∀ (m : Nat) (t8_a : Int) (o9000_af0 : List (List Int)) (o9001_af0 : List Int) (o9002_af0 : Int), R68c87_0 a87c N m (Sl68c87a s0 t8_a o9000_af0 o9001_af0 o9002_af0) = l68c87a a87c N s0 m t8_a o9000_af0 o9001_af0 o9002_af0
        | 0, _, _, _, _ => rfl
        | m + 1, t8_a, o9000_af0, o9001_af0, o9002_af0 => by rw [wl68c87a]; simp only [l68c87a, ql68c87a a87c N s0 m]
def m68c87 (a87c : Int → (List (List Int)) → (List Int) → Int → Option (Bool × List (List Int) × List Int × Int)) (N : Nat) (s0 : List Int) (p1 : List (List Int)) (p2 : List Int) (p3 : Int) : Option (Int × List (List Int) × List Int × Int) :=
   (l68c87a a87c N s0 N (0 : Int) p1 p2 p3)
theorem wm68c87 (a87c : Int → (List (List Int)) → (List Int) → Int → Option (Bool × List (List Int) × List Int × Int)) (N : Nat) (s0 : List Int) (p1 : List (List Int)) (p2 : List Int) (p3 : Int) : callF (E68c87 a87c) lv68c87 N en68c87 c68c87 (resOf Try.f68) 17 [.dv (.sl (.int .i64)) s0, .fn 87 0 3 fun i => ([.ptr 9000 0 [0], .ptr 9001 0 [0], .ptr 9002 0 [0]] : List TV).getD i .any] [(9000, .rcd [.dv (.sl (.sl (.int .i64))) p1]), (9001, .rcd [.dv (.sl (.int .i64)) p2]), (9002, .rcd [.dv (.int .i64) p3])] dec68c87 = (R68c87_0 a87c N N (Sl68c87a s0 (0 : Int) p1 p2 p3)) := by kernel_rfl
theorem k68c87 (a87c : Int → (List (List Int)) → (List Int) → Int → Option (Bool × List (List Int) × List Int × Int)) (N : Nat) (s0 : List Int) (p1 : List (List Int)) (p2 : List Int) (p3 : Int) : callF (E68c87 a87c) lv68c87 N en68c87 c68c87 (resOf Try.f68) 17 [.dv (.sl (.int .i64)) s0, .fn 87 0 3 fun i => ([.ptr 9000 0 [0], .ptr 9001 0 [0], .ptr 9002 0 [0]] : List TV).getD i .any] [(9000, .rcd [.dv (.sl (.sl (.int .i64))) p1]), (9001, .rcd [.dv (.sl (.int .i64)) p2]), (9002, .rcd [.dv (.int .i64) p3])] dec68c87 = m68c87 a87c N s0 p1 p2 p3 := by rw [wm68c87]; simp only [m68c87, ql68c87a]
theorem ok68c87 (a87c : Int → (List (List Int)) → (List Int) → Int → Option (Bool × List (List Int) × List Int × Int)) (h87c : FnOk Try.prog 87 (F87c a87c)) (a : (List Int) → (List (List Int)) → (List Int) → Int → Option (Int × List (List Int) × List Int × Int)) (h : ∀ s0 p1 p2 p3 r, a s0 p1 p2 p3 = some r → (∃ N, m68c87 a87c N s0 p1 p2 p3 = some r)) : FnOk Try.prog 68 (F68c87 a) := by
 intro args Of x hx
 simp only [F68c87] at hx
 split at hx
 ·rename_i s0 f_0 p1 p2 p3 heqc
  have hc0 := congrArg (fun c : List (List TV) => c.getD 0 []) heqc
  obtain ⟨N, hN⟩ := h _ _ _ _ _ hx
  refine HSpec.etaL (args := [.dv (.sl (.int .i64)) s0, .fn 87 0 3 fun i => ([.ptr 9000 0 [0], .ptr 9001 0 [0], .ptr 9002 0 [0]] : List TV).getD i .any]) (O := [(9000, .rcd [.dv (.sl (.sl (.int .i64))) p1]), (9001, .rcd [.dv (.sl (.int .i64)) p2]), (9002, .rcd [.dv (.int .i64) p3])]) ⟨TV.sim_refl _, TV.sim_fn hc0, trivial⟩ ⟨rfl, TO.sim_refl _, rfl, TO.sim_refl _, rfl, TO.sim_refl _, trivial⟩ (lifted (L := [(87, F87c a87c)]) (rc := nrc) (fz := nfz) (fn := Try.f68) (by kernel_rfl) (by kernel_rfl) (by kernel_rfl) (by kernel_rfl) rfl ?_ ((k68c87 a87c N _ _ _ _).trans hN) ?_)
  ·intro p hp; simp only [List.mem_cons, List.not_mem_nil, or_false] at hp; rcases hp with rfl; exact h87c
  ·intro l o hd
   simp only [dec68c87] at hd
   split at hd
   ·obtain rfl := oij hd; exact ⟨rfl, rfl⟩
   ·cases hd
 ·cases hx
def E55 (a53 : (List (List Int)) → Int → (List Int) → Option (Int)) (a68c87 : (List Int) → (List (List Int)) → (List Int) → Int → Option (Int × List (List Int) × List Int × Int)) : Env := mkE TI TY [(53, F53 a53), (68, F68c87 a68c87)] nrc nfz
noncomputable def c55 : Code := bodyOf Try.f55
def lv55 : Nat → Option Norm := norms []
def en55 : End := ⟨[], ⟨[19], [], [], []⟩⟩
def dec55 (l : List TV) (o : List (Nat × TO)) : Option (Int) := match l, o with | [.dv (.int .i64) x0], [] => some (x0) | _, _ => none
def m55 (a53 : (List (List Int)) → Int → (List Int) → Option (Int)) (a68c87 : (List Int) → (List (List Int)) → (List Int) → Int → Option (Int × List (List Int) × List Int × Int)) (N : Nat) (t0 : List (List Int)) (code1 : List Int) (at2 : Int) : Option (Int) :=
   chk (decide (0 ≤ at2 ∧ at2 ≤ (code1.length : Int))) ((a53 t0 (0 : Int) (code1.take at2.toNat)).bind fun r1 =>
   chk (decide (0 ≤ r1 ∧ r1 < (t0.length : Int))) ((a68c87 (t0.getD r1.toNat ([] : List Int)) t0 code1 at2).bind fun r2 =>
   some r2.1))
theorem k55 (a53 : (List (List Int)) → Int → (List Int) → Option (Int)) (a68c87 : (List Int) → (List (List Int)) → (List Int) → Int → Option (Int × List (List Int) × List Int × Int)) (N : Nat) (t0 : List (List Int)) (code1 : List Int) (at2 : Int) : callF (E55 a53 a68c87) lv55 N en55 c55 (resOf Try.f55) 16 [.dv (.sl (.sl (.int .i64))) t0, .dv (.sl (.int .i64)) code1, .dv (.int .i64) at2] [] dec55 = m55 a53 a68c87 N t0 code1 at2 := by kernel_rfl
theorem ok55 (a53 : (List (List Int)) → Int → (List Int) → Option (Int)) (a68c87 : (List Int) → (List (List Int)) → (List Int) → Int → Option (Int × List (List Int) × List Int × Int)) (h53 : FnOk Try.prog 53 (F53 a53)) (h68c87 : FnOk Try.prog 68 (F68c87 a68c87)) (a : (List (List Int)) → (List Int) → Int → Option (Int)) (h : ∀ t0 code1 at2 r, a t0 code1 at2 = some r → (∃ N, m55 a53 a68c87 N t0 code1 at2 = some r)) : FnOk Try.prog 55 (F55 a) := by
 intro args Of x hx
 simp only [F55] at hx
 split at hx
 ·rename_i t0 code1 at2
  obtain ⟨N, hN⟩ := h _ _ _ _ hx
  refine lifted (L := [(53, F53 a53), (68, F68c87 a68c87)]) (rc := nrc) (fz := nfz) (fn := Try.f55) (by kernel_rfl) (by kernel_rfl) (by kernel_rfl) (by kernel_rfl) rfl ?_ ((k55 a53 a68c87 N _ _ _).trans hN) ?_
  ·intro p hp; simp only [List.mem_cons, List.not_mem_nil, or_false] at hp; rcases hp with rfl | rfl
   ·exact h53
   ·exact h68c87
  ·intro l o hd
   simp only [dec55] at hd
   split at hd
   ·obtain rfl := oij hd; exact ⟨rfl, rfl⟩
   ·cases hd
 ·cases hx
def E22 (a54 : (List (List Int)) → (List Int) → Option (Int)) (a55 : (List (List Int)) → (List Int) → Int → Option (Int)) : Env := mkE TI TY [(54, F54 a54), (55, F55 a55)] nrc nfz
noncomputable def c22 : Code := bodyOf Try.f22
def nm22_0 : Norm := ⟨[0, 1, 16, 17], [], [(.slot 7, 1007, .pair (.int .i64) (.pair (.int .i64) (.unit)))], []⟩
def lv22 : Nat → Option Norm := norms [(6, nm22_0)]
def en22 : End := ⟨[(31, .sl (.pair (.int .i64) (.pair (.int .i64) (.unit))))], ⟨[31, 32], [], [], []⟩⟩
def dec22 (l : List TV) (o : List (Nat × TO)) : Option (List (Int × Int × Unit) × Int) := match l, o with | [.dv (.sl (.pair (.int .i64) (.pair (.int .i64) (.unit)))) x0, .dv (.int .i64) x1], [] => some (x0, x1) | _, _ => none
def Sl22a (table0 : List (List Int)) (code1 : List Int) (t17_a : Int) (out7_a : List (Int × Int × Unit)) : TS := ⟨slots 31 [(0, .dv (.sl (.sl (.int .i64))) table0), (1, .dv (.sl (.int .i64)) code1), (7, .row 1007), (16, .dv (.int .i64) (code1.length : Int)), (17, .dv (.int .i64) t17_a)], [(1007, .row (.pair (.int .i64) (.pair (.int .i64) (.unit))) out7_a)]⟩
noncomputable def K22_0 (a54 : (List (List Int)) → (List Int) → Option (Int)) (a55 : (List (List Int)) → (List Int) → Int → Option (Int)) (N : Nat) : Kont (List (Int × Int × Unit) × Int) := kont (E22 a54 a55) lv22 N c22 [1, 1, 1, 0, 1, 0] (fin TI en22 (resOf Try.f22) dec22)
noncomputable def R22_0 (a54 : (List (List Int)) → (List Int) → Option (Int)) (a55 : (List (List Int)) → (List Int) → Int → Option (Int)) (N : Nat) (m : Nat) : TS → Option (List (Int × Int × Unit) × Int) := loopK (den (E22 a54 a55) lv22 N (sub c22 [1, 1, 1, 0, 1, 0, 0])) (TS.norm nm22_0) (K22_0 a54 a55 N) m
def l22a (a54 : (List (List Int)) → (List Int) → Option (Int)) (a55 : (List (List Int)) → (List Int) → Int → Option (Int)) (N : Nat) (table0 : List (List Int)) (code1 : List Int) : Nat → Int → (List (Int × Int × Unit)) → Option (List (Int × Int × Unit) × Int)
 | 0, _, _ => none
 | n + 1, t17_a, out7_a => cond (decide (t17_a < (code1.length : Int))) ((a55 table0 code1 t17_a).bind fun r2 =>
   chk (small (out7_a.length + 1) 16) ((l22a a54 a55 N table0 code1 n (w64 (t17_a + (1 : Int))) (out7_a ++ ([(t17_a, (r2, ()))] : List (Int × Int × Unit))))))
   (some (out7_a, (0 : Int)))
theorem wl22a (a54 : (List (List Int)) → (List Int) → Option (Int)) (a55 : (List (List Int)) → (List Int) → Int → Option (Int)) (N : Nat) (table0 : List (List Int)) (code1 : List Int) (m : Nat) (t17_a : Int) (out7_a : List (Int × Int × Unit)) : R22_0 a54 a55 N (m + 1) (Sl22a table0 code1 t17_a out7_a) = cond (decide (t17_a < (code1.length : Int))) ((a55 table0 code1 t17_a).bind fun r2 =>
   chk (small (out7_a.length + 1) 16) ((R22_0 a54 a55 N m (Sl22a table0 code1 (w64 (t17_a + (1 : Int))) (out7_a ++ ([(t17_a, (r2, ()))] : List (Int × Int × Unit)))))))
   (some (out7_a, (0 : Int))) := by kernel_rfl
theorem ql22a (a54 : (List (List Int)) → (List Int) → Option (Int)) (a55 : (List (List Int)) → (List Int) → Int → Option (Int)) (N : Nat) (table0 : List (List Int)) (code1 : List Int) : ∀ (m : Nat) (t17_a : Int) (out7_a : List (Int × Int × Unit)), R22_0 a54 a55 N m (Sl22a table0 code1 t17_a out7_a) = l22a a54 a55 N table0 code1 m t17_a out7_a
        | 0, _, _ => rfl
        | m + 1, t17_a, out7_a => by rw [wl22a]; simp only [l22a, ql22a a54 a55 N table0 code1 m]
def m22 (a54 : (List (List Int)) → (List Int) → Option (Int)) (a55 : (List (List Int)) → (List Int) → Int → Option (Int)) (N : Nat) (table0 : List (List Int)) (code1 : List Int) : Option (List (Int × Int × Unit) × Int) :=
   (a54 table0 code1).bind fun r1 =>
   cond (r1 != (0 : Int)) (some (([] : List (Int × Int × Unit)), r1))
   ((l22a a54 a55 N table0 code1 N (0 : Int) ([] : List (Int × Int × Unit))))
theorem wm22 (a54 : (List (List Int)) → (List Int) → Option (Int)) (a55 : (List (List Int)) → (List Int) → Int → Option (Int)) (N : Nat) (table0 : List (List Int)) (code1 : List Int) : callF (E22 a54 a55) lv22 N en22 c22 (resOf Try.f22) 29 [.dv (.sl (.sl (.int .i64))) table0, .dv (.sl (.int .i64)) code1] [] dec22 = (a54 table0 code1).bind fun r1 =>
   cond (r1 != (0 : Int)) (some (([] : List (Int × Int × Unit)), r1))
   ((R22_0 a54 a55 N N (Sl22a table0 code1 (0 : Int) ([] : List (Int × Int × Unit))))) := by kernel_rfl
theorem k22 (a54 : (List (List Int)) → (List Int) → Option (Int)) (a55 : (List (List Int)) → (List Int) → Int → Option (Int)) (N : Nat) (table0 : List (List Int)) (code1 : List Int) : callF (E22 a54 a55) lv22 N en22 c22 (resOf Try.f22) 29 [.dv (.sl (.sl (.int .i64))) table0, .dv (.sl (.int .i64)) code1] [] dec22 = m22 a54 a55 N table0 code1 := by rw [wm22]; simp only [m22, ql22a]
theorem ok22 (a54 : (List (List Int)) → (List Int) → Option (Int)) (a55 : (List (List Int)) → (List Int) → Int → Option (Int)) (h54 : FnOk Try.prog 54 (F54 a54)) (h55 : FnOk Try.prog 55 (F55 a55)) (a : (List (List Int)) → (List Int) → Option (List (Int × Int × Unit) × Int)) (h : ∀ table0 code1 r, a table0 code1 = some r → (∃ N, m22 a54 a55 N table0 code1 = some r)) : FnOk Try.prog 22 (F22 a) := by
 intro args Of x hx
 simp only [F22] at hx
 split at hx
 ·rename_i table0 code1
  obtain ⟨N, hN⟩ := h _ _ _ hx
  refine lifted (L := [(54, F54 a54), (55, F55 a55)]) (rc := nrc) (fz := nfz) (fn := Try.f22) (by kernel_rfl) (by kernel_rfl) (by kernel_rfl) (by kernel_rfl) rfl ?_ ((k22 a54 a55 N _ _).trans hN) ?_
  ·intro p hp; simp only [List.mem_cons, List.not_mem_nil, or_false] at hp; rcases hp with rfl | rfl
   ·exact h54
   ·exact h55
  ·intro l o hd
   simp only [dec22] at hd
   split at hd
   ·obtain rfl := oij hd; exact ⟨rfl, rfl⟩
   ·cases hd
 ·cases hx
def E5 (a13 : (List (List Int)) → Option (Int)) (a18 : (List (List Int)) → Int → Option (List (Int × List Int × Unit) × Int)) (a19 : (List (List Int)) → Int → (List (Int × List Int × Unit)) → Option (Int)) (a20 : (List (List Int)) → (List Int) → Option (Int × Int)) (a21 : (List (List Int)) → (List Int) → Option (Int)) (a22 : (List (List Int)) → (List Int) → Option (List (Int × Int × Unit) × Int)) (a9 : Option (Bool)) : Env := mkE TI TY [(13, F13 a13), (18, F18 a18), (19, F19 a19), (20, F20 a20), (21, F21 a21), (22, F22 a22), (9, F9 a9)] nrc (fun i => ([59] : List Nat).contains i)
noncomputable def c5 : Code := bodyOf Try.f5
def nm5_0 : Norm := ⟨[1, 5, 7], [], [(.slot 6, 1006, .sl (.int .i64))], []⟩
def nm5_1 : Norm := ⟨[1, 5, 6, 7, 9], [1006], [(.slot 8, 1008, .int .i64)], []⟩
def nm5_2 : Norm := ⟨[1, 5, 12, 60, 61, 62], [59], [], []⟩
def nm5_3 : Norm := ⟨[1, 5, 12, 14, 60, 61, 62, 83, 84], [59, 14], [], []⟩
def nm5_4 : Norm := ⟨[1, 5, 12, 14, 60, 61, 62, 83, 84, 87, 88, 89], [59, 14], [], []⟩
def nm5_5 : Norm := ⟨[1, 5, 12, 18], [59], [(.slot 17, 1017, .int .i64)], []⟩
def lv5 : Nat → Option Norm := norms [(4, nm5_0), (8, nm5_1), (17, nm5_2), (22, nm5_3), (24, nm5_4), (34, nm5_5)]
def en5 : End := ⟨[], ⟨[186], [], [], []⟩⟩
def dec5 (l : List TV) (o : List (Nat × TO)) : Option (Bool) := match l, o with | [.dv (.bool) x0], [] => some (x0) | _, _ => none
def Sl5b (side0 : Int) (digits1 : List Int) (i7_a : Int) (work6_a : List (List Int)) (k9_b : Int) (l8_b : List Int) : TS := ⟨slots 186 [(1, .dv (.sl (.int .u8)) digits1), (5, .dv (.int .i64) (w64 ((2 : Int) + (Int.tmod (w64 (side0)) (5 : Int))))), (6, .row 1006), (7, .dv (.int .i64) i7_a), (8, .row 1008), (9, .dv (.int .i64) k9_b)], [(1008, .row (.int .i64) l8_b), (1006, .row (.sl (.int .i64)) work6_a)]⟩
def Sl5e (side0 : Int) (digits1 : List Int) (r1 : List (Int × List Int × Unit) × Int) (t62_c : Int) (t84_d : Int) (t89_e : Int) (o59_e : List (List Int)) : TS := ⟨slots 186 [(1, .dv (.sl (.int .u8)) digits1), (5, .dv (.int .i64) (w64 ((2 : Int) + (Int.tmod (w64 (side0)) (5 : Int))))), (12, .row 59), (14, .ptr 14 0 []), (60, .dv (.sl (.pair (.int .i64) (.pair (.sl (.int .i64)) (.unit)))) r1.1), (61, .dv (.int .i64) (r1.1.length : Int)), (62, .dv (.int .i64) t62_c), (83, .dv (.int .i64) ((r1.1.getD t62_c.toNat ((0 : Int), (([] : List Int), ()))).1)), (84, .dv (.int .i64) t84_d), (87, .dv (.sl (.int .i64)) (((r1.1.getD t62_c.toNat ((0 : Int), (([] : List Int), ()))).2).1)), (88, .dv (.int .i64) ((((r1.1.getD t62_c.toNat ((0 : Int), (([] : List Int), ()))).2).1).length : Int)), (89, .dv (.int .i64) t89_e)], [(59, .mat (.int .i64) o59_e none), (14, .row (.pair (.int .i64) (.pair (.sl (.int .i64)) (.unit))) ([r1.1.getD t62_c.toNat ((0 : Int), (([] : List Int), ()))] : List (Int × List Int × Unit)))]⟩
def Sl5d (side0 : Int) (digits1 : List Int) (r1 : List (Int × List Int × Unit) × Int) (t62_c : Int) (t84_d : Int) (o59_d : List (List Int)) : TS := ⟨slots 186 [(1, .dv (.sl (.int .u8)) digits1), (5, .dv (.int .i64) (w64 ((2 : Int) + (Int.tmod (w64 (side0)) (5 : Int))))), (12, .row 59), (14, .ptr 14 0 []), (60, .dv (.sl (.pair (.int .i64) (.pair (.sl (.int .i64)) (.unit)))) r1.1), (61, .dv (.int .i64) (r1.1.length : Int)), (62, .dv (.int .i64) t62_c), (83, .dv (.int .i64) ((r1.1.getD t62_c.toNat ((0 : Int), (([] : List Int), ()))).1)), (84, .dv (.int .i64) t84_d)], [(59, .mat (.int .i64) o59_d none), (14, .row (.pair (.int .i64) (.pair (.sl (.int .i64)) (.unit))) ([r1.1.getD t62_c.toNat ((0 : Int), (([] : List Int), ()))] : List (Int × List Int × Unit)))]⟩
def Sl5f (side0 : Int) (digits1 : List Int) (o59_c : List (List Int)) (i18_f : Int) (l17_f : List Int) : TS := ⟨slots 186 [(1, .dv (.sl (.int .u8)) digits1), (5, .dv (.int .i64) (w64 ((2 : Int) + (Int.tmod (w64 (side0)) (5 : Int))))), (12, .row 59), (17, .row 1017), (18, .dv (.int .i64) i18_f)], [(1017, .row (.int .i64) l17_f), (59, .mat (.int .i64) o59_c none)]⟩
def Sl5c (side0 : Int) (digits1 : List Int) (r1 : List (Int × List Int × Unit) × Int) (t62_c : Int) (o59_c : List (List Int)) : TS := ⟨slots 186 [(1, .dv (.sl (.int .u8)) digits1), (5, .dv (.int .i64) (w64 ((2 : Int) + (Int.tmod (w64 (side0)) (5 : Int))))), (12, .row 59), (60, .dv (.sl (.pair (.int .i64) (.pair (.sl (.int .i64)) (.unit)))) r1.1), (61, .dv (.int .i64) (r1.1.length : Int)), (62, .dv (.int .i64) t62_c)], [(59, .mat (.int .i64) o59_c none)]⟩
def Sl5a (side0 : Int) (digits1 : List Int) (i7_a : Int) (work6_a : List (List Int)) : TS := ⟨slots 186 [(1, .dv (.sl (.int .u8)) digits1), (5, .dv (.int .i64) (w64 ((2 : Int) + (Int.tmod (w64 (side0)) (5 : Int))))), (6, .row 1006), (7, .dv (.int .i64) i7_a)], [(1006, .row (.sl (.int .i64)) work6_a)]⟩
noncomputable def K5_0 (a13 : (List (List Int)) → Option (Int)) (a18 : (List (List Int)) → Int → Option (List (Int × List Int × Unit) × Int)) (a19 : (List (List Int)) → Int → (List (Int × List Int × Unit)) → Option (Int)) (a20 : (List (List Int)) → (List Int) → Option (Int × Int)) (a21 : (List (List Int)) → (List Int) → Option (Int)) (a22 : (List (List Int)) → (List Int) → Option (List (Int × Int × Unit) × Int)) (a9 : Option (Bool)) (N : Nat) : Kont (Bool) := kont (E5 a13 a18 a19 a20 a21 a22 a9) lv5 N c5 [1, 1, 1, 0, 1, 0] (fin TI en5 (resOf Try.f5) dec5)
noncomputable def R5_0 (a13 : (List (List Int)) → Option (Int)) (a18 : (List (List Int)) → Int → Option (List (Int × List Int × Unit) × Int)) (a19 : (List (List Int)) → Int → (List (Int × List Int × Unit)) → Option (Int)) (a20 : (List (List Int)) → (List Int) → Option (Int × Int)) (a21 : (List (List Int)) → (List Int) → Option (Int)) (a22 : (List (List Int)) → (List Int) → Option (List (Int × Int × Unit) × Int)) (a9 : Option (Bool)) (N : Nat) (m : Nat) : TS → Option (Bool) := loopK (den (E5 a13 a18 a19 a20 a21 a22 a9) lv5 N (sub c5 [1, 1, 1, 0, 1, 0, 0])) (TS.norm nm5_0) (K5_0 a13 a18 a19 a20 a21 a22 a9 N) m
noncomputable def K5_1 (a13 : (List (List Int)) → Option (Int)) (a18 : (List (List Int)) → Int → Option (List (Int × List Int × Unit) × Int)) (a19 : (List (List Int)) → Int → (List (Int × List Int × Unit)) → Option (Int)) (a20 : (List (List Int)) → (List Int) → Option (Int × Int)) (a21 : (List (List Int)) → (List Int) → Option (Int)) (a22 : (List (List Int)) → (List Int) → Option (List (Int × Int × Unit) × Int)) (a9 : Option (Bool)) (N : Nat) (T5_0 : TS → Option (Bool)) : Kont (Bool) := kont (E5 a13 a18 a19 a20 a21 a22 a9) lv5 N (sub c5 [1, 1, 1, 0, 1, 0, 0]) [1, 0, 0, 1, 0, 1, 0] (kloop (TS.norm nm5_0) (K5_0 a13 a18 a19 a20 a21 a22 a9 N) T5_0)
noncomputable def R5_1 (a13 : (List (List Int)) → Option (Int)) (a18 : (List (List Int)) → Int → Option (List (Int × List Int × Unit) × Int)) (a19 : (List (List Int)) → Int → (List (Int × List Int × Unit)) → Option (Int)) (a20 : (List (List Int)) → (List Int) → Option (Int × Int)) (a21 : (List (List Int)) → (List Int) → Option (Int)) (a22 : (List (List Int)) → (List Int) → Option (List (Int × Int × Unit) × Int)) (a9 : Option (Bool)) (N : Nat) (T5_0 : TS → Option (Bool)) (m : Nat) : TS → Option (Bool) := loopK (den (E5 a13 a18 a19 a20 a21 a22 a9) lv5 N (sub c5 [1, 1, 1, 0, 1, 0, 0, 1, 0, 0, 1, 0, 1, 0, 0])) (TS.norm nm5_1) (K5_1 a13 a18 a19 a20 a21 a22 a9 N T5_0) m
noncomputable def K5_2 (a13 : (List (List Int)) → Option (Int)) (a18 : (List (List Int)) → Int → Option (List (Int × List Int × Unit) × Int)) (a19 : (List (List Int)) → Int → (List (Int × List Int × Unit)) → Option (Int)) (a20 : (List (List Int)) → (List Int) → Option (Int × Int)) (a21 : (List (List Int)) → (List Int) → Option (Int)) (a22 : (List (List Int)) → (List Int) → Option (List (Int × Int × Unit) × Int)) (a9 : Option (Bool)) (N : Nat) : Kont (Bool) := kont (E5 a13 a18 a19 a20 a21 a22 a9) lv5 N c5 [1, 1, 1, 1, 1, 1, 1, 0, 1, 0] (fin TI en5 (resOf Try.f5) dec5)
noncomputable def R5_2 (a13 : (List (List Int)) → Option (Int)) (a18 : (List (List Int)) → Int → Option (List (Int × List Int × Unit) × Int)) (a19 : (List (List Int)) → Int → (List (Int × List Int × Unit)) → Option (Int)) (a20 : (List (List Int)) → (List Int) → Option (Int × Int)) (a21 : (List (List Int)) → (List Int) → Option (Int)) (a22 : (List (List Int)) → (List Int) → Option (List (Int × Int × Unit) × Int)) (a9 : Option (Bool)) (N : Nat) (m : Nat) : TS → Option (Bool) := loopK (den (E5 a13 a18 a19 a20 a21 a22 a9) lv5 N (sub c5 [1, 1, 1, 1, 1, 1, 1, 0, 1, 0, 0])) (TS.norm nm5_2) (K5_2 a13 a18 a19 a20 a21 a22 a9 N) m
noncomputable def K5_3 (a13 : (List (List Int)) → Option (Int)) (a18 : (List (List Int)) → Int → Option (List (Int × List Int × Unit) × Int)) (a19 : (List (List Int)) → Int → (List (Int × List Int × Unit)) → Option (Int)) (a20 : (List (List Int)) → (List Int) → Option (Int × Int)) (a21 : (List (List Int)) → (List Int) → Option (Int)) (a22 : (List (List Int)) → (List Int) → Option (List (Int × Int × Unit) × Int)) (a9 : Option (Bool)) (N : Nat) (T5_2 : TS → Option (Bool)) : Kont (Bool) := kont (E5 a13 a18 a19 a20 a21 a22 a9) lv5 N (sub c5 [1, 1, 1, 1, 1, 1, 1, 0, 1, 0, 0]) [1, 1, 0, 0, 1, 1, 1, 0] (kloop (TS.norm nm5_2) (K5_2 a13 a18 a19 a20 a21 a22 a9 N) T5_2)
noncomputable def R5_3 (a13 : (List (List Int)) → Option (Int)) (a18 : (List (List Int)) → Int → Option (List (Int × List Int × Unit) × Int)) (a19 : (List (List Int)) → Int → (List (Int × List Int × Unit)) → Option (Int)) (a20 : (List (List Int)) → (List Int) → Option (Int × Int)) (a21 : (List (List Int)) → (List Int) → Option (Int)) (a22 : (List (List Int)) → (List Int) → Option (List (Int × Int × Unit) × Int)) (a9 : Option (Bool)) (N : Nat) (T5_2 : TS → Option (Bool)) (m : Nat) : TS → Option (Bool) := loopK (den (E5 a13 a18 a19 a20 a21 a22 a9) lv5 N (sub c5 [1, 1, 1, 1, 1, 1, 1, 0, 1, 0, 0, 1, 1, 0, 0, 1, 1, 1, 0, 0])) (TS.norm nm5_3) (K5_3 a13 a18 a19 a20 a21 a22 a9 N T5_2) m
noncomputable def K5_4 (a13 : (List (List Int)) → Option (Int)) (a18 : (List (List Int)) → Int → Option (List (Int × List Int × Unit) × Int)) (a19 : (List (List Int)) → Int → (List (Int × List Int × Unit)) → Option (Int)) (a20 : (List (List Int)) → (List Int) → Option (Int × Int)) (a21 : (List (List Int)) → (List Int) → Option (Int)) (a22 : (List (List Int)) → (List Int) → Option (List (Int × Int × Unit) × Int)) (a9 : Option (Bool)) (N : Nat) (T5_2 : TS → Option (Bool)) (T5_3 : TS → Option (Bool)) : Kont (Bool) := kont (E5 a13 a18 a19 a20 a21 a22 a9) lv5 N (sub c5 [1, 1, 1, 1, 1, 1, 1, 0, 1, 0, 0, 1, 1, 0, 0, 1, 1, 1, 0, 0]) [1, 1, 0, 0, 1, 0] (kloop (TS.norm nm5_3) (K5_3 a13 a18 a19 a20 a21 a22 a9 N T5_2) T5_3)
noncomputable def R5_4 (a13 : (List (List Int)) → Option (Int)) (a18 : (List (List Int)) → Int → Option (List (Int × List Int × Unit) × Int)) (a19 : (List (List Int)) → Int → (List (Int × List Int × Unit)) → Option (Int)) (a20 : (List (List Int)) → (List Int) → Option (Int × Int)) (a21 : (List (List Int)) → (List Int) → Option (Int)) (a22 : (List (List Int)) → (List Int) → Option (List (Int × Int × Unit) × Int)) (a9 : Option (Bool)) (N : Nat) (T5_2 : TS → Option (Bool)) (T5_3 : TS → Option (Bool)) (m : Nat) : TS → Option (Bool) := loopK (den (E5 a13 a18 a19 a20 a21 a22 a9) lv5 N (sub c5 [1, 1, 1, 1, 1, 1, 1, 0, 1, 0, 0, 1, 1, 0, 0, 1, 1, 1, 0, 0, 1, 1, 0, 0, 1, 0, 0])) (TS.norm nm5_4) (K5_4 a13 a18 a19 a20 a21 a22 a9 N T5_2 T5_3) m
noncomputable def K5_5 (a13 : (List (List Int)) → Option (Int)) (a18 : (List (List Int)) → Int → Option (List (Int × List Int × Unit) × Int)) (a19 : (List (List Int)) → Int → (List (Int × List Int × Unit)) → Option (Int)) (a20 : (List (List Int)) → (List Int) → Option (Int × Int)) (a21 : (List (List Int)) → (List Int) → Option (Int)) (a22 : (List (List Int)) → (List Int) → Option (List (Int × Int × Unit) × Int)) (a9 : Option (Bool)) (N : Nat) : Kont (Bool) := kont (E5 a13 a18 a19 a20 a21 a22 a9) lv5 N c5 [1, 1, 1, 1, 1, 1, 1, 1, 1, 1, 0, 1, 0] (fin TI en5 (resOf Try.f5) dec5)
noncomputable def R5_5 (a13 : (List (List Int)) → Option (Int)) (a18 : (List (List Int)) → Int → Option (List (Int × List Int × Unit) × Int)) (a19 : (List (List Int)) → Int → (List (Int × List Int × Unit)) → Option (Int)) (a20 : (List (List Int)) → (List Int) → Option (Int × Int)) (a21 : (List (List Int)) → (List Int) → Option (Int)) (a22 : (List (List Int)) → (List Int) → Option (List (Int × Int × Unit) × Int)) (a9 : Option (Bool)) (N : Nat) (m : Nat) : TS → Option (Bool) := loopK (den (E5 a13 a18 a19 a20 a21 a22 a9) lv5 N (sub c5 [1, 1, 1, 1, 1, 1, 1, 1, 1, 1, 0, 1, 0, 0])) (TS.norm nm5_5) (K5_5 a13 a18 a19 a20 a21 a22 a9 N) m
def l5b (a13 : (List (List Int)) → Option (Int)) (a18 : (List (List Int)) → Int → Option (List (Int × List Int × Unit) × Int)) (a19 : (List (List Int)) → Int → (List (Int × List Int × Unit)) → Option (Int)) (a20 : (List (List Int)) → (List Int) → Option (Int × Int)) (a21 : (List (List Int)) → (List Int) → Option (Int)) (a22 : (List (List Int)) → (List Int) → Option (List (Int × Int × Unit) × Int)) (a9 : Option (Bool)) (N : Nat) (side0 : Int) (digits1 : List Int) (i7_a : Int) (work6_a : List (List Int)) (rec_l5a : Int → (List (List Int)) → Option (Bool)) : Nat → Int → (List Int) → Option (Bool)
 | 0, _, _ => none
 | n + 1, k9_b, l8_b => cond (decide (k9_b < (w64 ((2 : Int) + (Int.tmod (w64 (side0)) (5 : Int)))))) (chk (small (l8_b.length + 1) 8) ((l5b a13 a18 a19 a20 a21 a22 a9 N side0 digits1 i7_a work6_a rec_l5a n (w64 (k9_b + (1 : Int))) (l8_b ++ ([(1 : Int)] : List Int)))))
   (chk (small (work6_a.length + 1) 24) ((rec_l5a (w64 (i7_a + (1 : Int))) (work6_a ++ ([l8_b] : List (List Int))))))
theorem wl5b (a13 : (List (List Int)) → Option (Int)) (a18 : (List (List Int)) → Int → Option (List (Int × List Int × Unit) × Int)) (a19 : (List (List Int)) → Int → (List (Int × List Int × Unit)) → Option (Int)) (a20 : (List (List Int)) → (List Int) → Option (Int × Int)) (a21 : (List (List Int)) → (List Int) → Option (Int)) (a22 : (List (List Int)) → (List Int) → Option (List (Int × Int × Unit) × Int)) (a9 : Option (Bool)) (N : Nat) (side0 : Int) (digits1 : List Int) (i7_a : Int) (work6_a : List (List Int)) (T5_0 : TS → Option (Bool)) (m : Nat) (k9_b : Int) (l8_b : List Int) : R5_1 a13 a18 a19 a20 a21 a22 a9 N T5_0 (m + 1) (Sl5b side0 digits1 i7_a work6_a k9_b l8_b) = cond (decide (k9_b < (w64 ((2 : Int) + (Int.tmod (w64 (side0)) (5 : Int)))))) (chk (small (l8_b.length + 1) 8) ((R5_1 a13 a18 a19 a20 a21 a22 a9 N T5_0 m (Sl5b side0 digits1 i7_a work6_a (w64 (k9_b + (1 : Int))) (l8_b ++ ([(1 : Int)] : List Int))))))
   (chk (small (work6_a.length + 1) 24) ((T5_0 (Sl5a side0 digits1 (w64 (i7_a + (1 : Int))) (work6_a ++ ([l8_b] : List (List Int))))))) := by kernel_rfl
theorem ql5b (a13 : (List (List Int)) → Option (Int)) (a18 : (List (List Int)) → Int → Option (List (Int × List Int × Unit) × Int)) (a19 : (List (List Int)) → Int → (List (Int × List Int × Unit)) → Option (Int)) (a20 : (List (List Int)) → (List Int) → Option (Int × Int)) (a21 : (List (List Int)) → (List Int) → Option (Int)) (a22 : (List (List Int)) → (List Int) → Option (List (Int × Int × Unit) × Int)) (a9 : Option (Bool)) (N : Nat) (side0 : Int) (digits1 : List Int) (i7_a : Int) (work6_a : List (List Int)) (T5_0 : TS → Option (Bool)) : ∀ (m : Nat) (k9_b : Int) (l8_b : List Int), R5_1 a13 a18 a19 a20 a21 a22 a9 N T5_0 m (Sl5b side0 digits1 i7_a work6_a k9_b l8_b) = l5b a13 a18 a19 a20 a21 a22 a9 N side0 digits1 i7_a work6_a (fun y0 y1 => T5_0 (Sl5a side0 digits1 y0 y1)) m k9_b l8_b
        | 0, _, _ => rfl
        | m + 1, k9_b, l8_b => by rw [wl5b]; simp only [l5b, ql5b a13 a18 a19 a20 a21 a22 a9 N side0 digits1 i7_a work6_a T5_0 m]
def l5e (a13 : (List (List Int)) → Option (Int)) (a18 : (List (List Int)) → Int → Option (List (Int × List Int × Unit) × Int)) (a19 : (List (List Int)) → Int → (List (Int × List Int × Unit)) → Option (Int)) (a20 : (List (List Int)) → (List Int) → Option (Int × Int)) (a21 : (List (List Int)) → (List Int) → Option (Int)) (a22 : (List (List Int)) → (List Int) → Option (List (Int × Int × Unit) × Int)) (a9 : Option (Bool)) (N : Nat) (side0 : Int) (digits1 : List Int) (r1 : List (Int × List Int × Unit) × Int) (t62_c : Int) (t84_d : Int) (rec_l5d : Int → (List (List Int)) → Option (Bool)) : Nat → Int → (List (List Int)) → Option (Bool)
 | 0, _, _ => none
 | n + 1, t89_e, o59_e => cond (decide (t89_e < ((((r1.1.getD t62_c.toNat ((0 : Int), (([] : List Int), ()))).2).1).length : Int))) (chk (decide (0 ≤ t89_e ∧ t89_e < ((((r1.1.getD t62_c.toNat ((0 : Int), (([] : List Int), ()))).2).1).length : Int))) (chk (decide (0 ≤ t89_e ∧ t89_e < (o59_e.length : Int))) (chk (small ((o59_e.getD t89_e.toNat ([] : List Int)).length + 1) 8) (chk (decide (0 ≤ t89_e ∧ t89_e < (o59_e.length : Int))) (chk (decide (t89_e.toNat = t89_e.toNat)) ((l5e a13 a18 a19 a20 a21 a22 a9 N side0 digits1 r1 t62_c t84_d rec_l5d n (w64 (t89_e + (1 : Int))) (o59_e.set t89_e.toNat ((o59_e.getD t89_e.toNat ([] : List Int)) ++ ([(((r1.1.getD t62_c.toNat ((0 : Int), (([] : List Int), ()))).2).1).getD t89_e.toNat (0 : Int)] : List Int))))))))))
   ((rec_l5d (w64 (t84_d + (1 : Int))) o59_e))
theorem wl5e (a13 : (List (List Int)) → Option (Int)) (a18 : (List (List Int)) → Int → Option (List (Int × List Int × Unit) × Int)) (a19 : (List (List Int)) → Int → (List (Int × List Int × Unit)) → Option (Int)) (a20 : (List (List Int)) → (List Int) → Option (Int × Int)) (a21 : (List (List Int)) → (List Int) → Option (Int)) (a22 : (List (List Int)) → (List Int) → Option (List (Int × Int × Unit) × Int)) (a9 : Option (Bool)) (N : Nat) (side0 : Int) (digits1 : List Int) (r1 : List (Int × List Int × Unit) × Int) (t62_c : Int) (t84_d : Int) (T5_2 : TS → Option (Bool)) (T5_3 : TS → Option (Bool)) (m : Nat) (t89_e : Int) (o59_e : List (List Int)) : R5_4 a13 a18 a19 a20 a21 a22 a9 N T5_2 T5_3 (m + 1) (Sl5e side0 digits1 r1 t62_c t84_d t89_e o59_e) = cond (decide (t89_e < ((((r1.1.getD t62_c.toNat ((0 : Int), (([] : List Int), ()))).2).1).length : Int))) (chk (decide (0 ≤ t89_e ∧ t89_e < ((((r1.1.getD t62_c.toNat ((0 : Int), (([] : List Int), ()))).2).1).length : Int))) (chk (decide (0 ≤ t89_e ∧ t89_e < (o59_e.length : Int))) (chk (small ((o59_e.getD t89_e.toNat ([] : List Int)).length + 1) 8) (chk (decide (0 ≤ t89_e ∧ t89_e < (o59_e.length : Int))) (chk (decide (t89_e.toNat = t89_e.toNat)) ((R5_4 a13 a18 a19 a20 a21 a22 a9 N T5_2 T5_3 m (Sl5e side0 digits1 r1 t62_c t84_d (w64 (t89_e + (1 : Int))) (o59_e.set t89_e.toNat ((o59_e.getD t89_e.toNat ([] : List Int)) ++ ([(((r1.1.getD t62_c.toNat ((0 : Int), (([] : List Int), ()))).2).1).getD t89_e.toNat (0 : Int)] : List Int)))))))))))
   ((T5_3 (Sl5d side0 digits1 r1 t62_c (w64 (t84_d + (1 : Int))) o59_e))) := by kernel_rfl
theorem ql5e (a13 : (List (List Int)) → Option (Int)) (a18 : (List (List Int)) → Int → Option (List (Int × List Int × Unit) × Int)) (a19 : (List (List Int)) → Int → (List (Int × List Int × Unit)) → Option (Int)) (a20 : (List (List Int)) → (List Int) → Option (Int × Int)) (a21 : (List (List Int)) → (List Int) → Option (Int)) (a22 : (List (List Int)) → (List Int) → Option (List (Int × Int × Unit) × Int)) (a9 : Option (Bool)) (N : Nat) (side0 : Int) (digits1 : List Int) (r1 : List (Int × List Int × Unit) × Int) (t62_c : Int) (t84_d : Int) (T5_2 : TS → Option (Bool)) (T5_3 : TS → Option (Bool)) : ∀ (m : Nat) (t89_e : Int) (o59_e : List (List Int)), R5_4 a13 a18 a19 a20 a21 a22 a9 N T5_2 T5_3 m (Sl5e side0 digits1 r1 t62_c t84_d t89_e o59_e) = l5e a13 a18 a19 a20 a21 a22 a9 N side0 digits1 r1 t62_c t84_d (fun y0 y1 => T5_3 (Sl5d side0 digits1 r1 t62_c y0 y1)) m t89_e o59_e
        | 0, _, _ => rfl
        | m + 1, t89_e, o59_e => by rw [wl5e]; simp only [l5e, ql5e a13 a18 a19 a20 a21 a22 a9 N side0 digits1 r1 t62_c t84_d T5_2 T5_3 m]
def l5d (a13 : (List (List Int)) → Option (Int)) (a18 : (List (List Int)) → Int → Option (List (Int × List Int × Unit) × Int)) (a19 : (List (List Int)) → Int → (List (Int × List Int × Unit)) → Option (Int)) (a20 : (List (List Int)) → (List Int) → Option (Int × Int)) (a21 : (List (List Int)) → (List Int) → Option (Int)) (a22 : (List (List Int)) → (List Int) → Option (List (Int × Int × Unit) × Int)) (a9 : Option (Bool)) (N : Nat) (side0 : Int) (digits1 : List Int) (r1 : List (Int × List Int × Unit) × Int) (t62_c : Int) (rec_l5c : Int → (List (List Int)) → Option (Bool)) : Nat → Int → (List (List Int)) → Option (Bool)
 | 0, _, _ => none
 | n + 1, t84_d, o59_d => cond (decide (t84_d < ((r1.1.getD t62_c.toNat ((0 : Int), (([] : List Int), ()))).1))) ((l5e a13 a18 a19 a20 a21 a22 a9 N side0 digits1 r1 t62_c t84_d (fun y0 y1 => (l5d a13 a18 a19 a20 a21 a22 a9 N side0 digits1 r1 t62_c rec_l5c n y0 y1)) N (0 : Int) o59_d))
   ((rec_l5c (w64 (t62_c + (1 : Int))) o59_d))
theorem wl5d (a13 : (List (List Int)) → Option (Int)) (a18 : (List (List Int)) → Int → Option (List (Int × List Int × Unit) × Int)) (a19 : (List (List Int)) → Int → (List (Int × List Int × Unit)) → Option (Int)) (a20 : (List (List Int)) → (List Int) → Option (Int × Int)) (a21 : (List (List Int)) → (List Int) → Option (Int)) (a22 : (List (List Int)) → (List Int) → Option (List (Int × Int × Unit) × Int)) (a9 : Option (Bool)) (N : Nat) (side0 : Int) (digits1 : List Int) (r1 : List (Int × List Int × Unit) × Int) (t62_c : Int) (T5_2 : TS → Option (Bool)) (m : Nat) (t84_d : Int) (o59_d : List (List Int)) : R5_3 a13 a18 a19 a20 a21 a22 a9 N T5_2 (m + 1) (Sl5d side0 digits1 r1 t62_c t84_d o59_d) = cond (decide (t84_d < ((r1.1.getD t62_c.toNat ((0 : Int), (([] : List Int), ()))).1))) ((R5_4 a13 a18 a19 a20 a21 a22 a9 N T5_2 (R5_3 a13 a18 a19 a20 a21 a22 a9 N T5_2 m) N (Sl5e side0 digits1 r1 t62_c t84_d (0 : Int) o59_d)))
   ((T5_2 (Sl5c side0 digits1 r1 (w64 (t62_c + (1 : Int))) o59_d))) := by kernel_rfl
theorem ql5d (a13 : (List (List Int)) → Option (Int)) (a18 : (List (List Int)) → Int → Option (List (Int × List Int × Unit) × Int)) (a19 : (List (List Int)) → Int → (List (Int × List Int × Unit)) → Option (Int)) (a20 : (List (List Int)) → (List Int) → Option (Int × Int)) (a21 : (List (List Int)) → (List Int) → Option (Int)) (a22 : (List (List Int)) → (List Int) → Option (List (Int × Int × Unit) × Int)) (a9 : Option (Bool)) (N : Nat) (side0 : Int) (digits1 : List Int) (r1 : List (Int × List Int × Unit) × Int) (t62_c : Int) (T5_2 : TS → Option (Bool)) : ∀ (m : Nat) (t84_d : Int) (o59_d : List (List Int)), R5_3 a13 a18 a19 a20 a21 a22 a9 N T5_2 m (Sl5d side0 digits1 r1 t62_c t84_d o59_d) = l5d a13 a18 a19 a20 a21 a22 a9 N side0 digits1 r1 t62_c (fun y0 y1 => T5_2 (Sl5c side0 digits1 r1 y0 y1)) m t84_d o59_d
        | 0, _, _ => rfl
        | m + 1, t84_d, o59_d => by rw [wl5d]; simp only [l5d, ql5e, ql5d a13 a18 a19 a20 a21 a22 a9 N side0 digits1 r1 t62_c T5_2 m]
def l5f (a13 : (List (List Int)) → Option (Int)) (a18 : (List (List Int)) → Int → Option (List (Int × List Int × Unit) × Int)) (a19 : (List (List Int)) → Int → (List (Int × List Int × Unit)) → Option (Int)) (a20 : (List (List Int)) → (List Int) → Option (Int × Int)) (a21 : (List (List Int)) → (List Int) → Option (Int)) (a22 : (List (List Int)) → (List Int) → Option (List (Int × Int × Unit) × Int)) (a9 : Option (Bool)) (N : Nat) (side0 : Int) (digits1 : List Int) (o59_c : List (List Int)) : Nat → Int → (List Int) → Option (Bool)
 | 0, _, _ => none
 | n + 1, i18_f, l17_f => cond (decide (i18_f < (digits1.length : Int))) (cond (decide (i18_f < (9 : Int))) (chk (decide (0 ≤ i18_f ∧ i18_f < (digits1.length : Int))) (chk (decide (w64 ((2 : Int) + (Int.tmod (w64 (side0)) (5 : Int))) ≠ (0 : Int))) (chk (small (l17_f.length + 1) 8) ((l5f a13 a18 a19 a20 a21 a22 a9 N side0 digits1 o59_c n (w64 (i18_f + (1 : Int))) (l17_f ++ ([Int.tmod (w64 (digits1.getD i18_f.toNat (0 : Int))) (w64 ((2 : Int) + (Int.tmod (w64 (side0)) (5 : Int))))] : List Int)))))))
   (cond ((l17_f.length : Int) == (0 : Int)) (chk (small (l17_f.length + 1) 8) ((a20 o59_c (l17_f ++ ([(0 : Int)] : List Int))).bind fun r4 =>
   chk (small ((l17_f ++ ([(0 : Int)] : List Int)).length + 1) 8) (cond (r4.2 != (0 : Int)) (some false)
   ((a21 o59_c ((l17_f ++ ([(0 : Int)] : List Int)) ++ ([r4.1] : List Int))).bind fun r5 =>
   cond (r5 != (0 : Int)) (some false)
   (chk (decide (0 ≤ (0 : Int) ∧ (0 : Int) < (((l17_f ++ ([(0 : Int)] : List Int)) ++ ([r4.1] : List Int)).length : Int))) (chk (decide (w64 ((2 : Int) + (Int.tmod (w64 (side0)) (5 : Int))) ≠ (0 : Int))) (chk (decide (0 ≤ (0 : Int) ∧ (0 : Int) < (((l17_f ++ ([(0 : Int)] : List Int)) ++ ([r4.1] : List Int)).length : Int))) ((a22 o59_c (((l17_f ++ ([(0 : Int)] : List Int)) ++ ([r4.1] : List Int)).set 0 (Int.tmod (w64 ((((l17_f ++ ([(0 : Int)] : List Int)) ++ ([r4.1] : List Int)).getD 0 (0 : Int)) + (1 : Int))) (w64 ((2 : Int) + (Int.tmod (w64 (side0)) (5 : Int))))))).bind fun r6 =>
   (a21 o59_c (((l17_f ++ ([(0 : Int)] : List Int)) ++ ([r4.1] : List Int)).set 0 (Int.tmod (w64 ((((l17_f ++ ([(0 : Int)] : List Int)) ++ ([r4.1] : List Int)).getD 0 (0 : Int)) + (1 : Int))) (w64 ((2 : Int) + (Int.tmod (w64 (side0)) (5 : Int))))))).bind fun r7 =>
   cond (r7 == (13 : Int)) (cond (r6.2 == (0 : Int)) (cond ((r6.1.length : Int) == ((((l17_f ++ ([(0 : Int)] : List Int)) ++ ([r4.1] : List Int)).set 0 (Int.tmod (w64 ((((l17_f ++ ([(0 : Int)] : List Int)) ++ ([r4.1] : List Int)).getD 0 (0 : Int)) + (1 : Int))) (w64 ((2 : Int) + (Int.tmod (w64 (side0)) (5 : Int)))))).length : Int)) ((a9).bind fun r8 =>
   some r8)
   (some false))
   (some false))
   (some false)))))))))
   ((a20 o59_c l17_f).bind fun r9 =>
   chk (small (l17_f.length + 1) 8) (cond (r9.2 != (0 : Int)) (some false)
   ((a21 o59_c (l17_f ++ ([r9.1] : List Int))).bind fun r10 =>
   cond (r10 != (0 : Int)) (some false)
   (chk (decide (0 ≤ (0 : Int) ∧ (0 : Int) < ((l17_f ++ ([r9.1] : List Int)).length : Int))) (chk (decide (w64 ((2 : Int) + (Int.tmod (w64 (side0)) (5 : Int))) ≠ (0 : Int))) (chk (decide (0 ≤ (0 : Int) ∧ (0 : Int) < ((l17_f ++ ([r9.1] : List Int)).length : Int))) ((a22 o59_c ((l17_f ++ ([r9.1] : List Int)).set 0 (Int.tmod (w64 (((l17_f ++ ([r9.1] : List Int)).getD 0 (0 : Int)) + (1 : Int))) (w64 ((2 : Int) + (Int.tmod (w64 (side0)) (5 : Int))))))).bind fun r11 =>
   (a21 o59_c ((l17_f ++ ([r9.1] : List Int)).set 0 (Int.tmod (w64 (((l17_f ++ ([r9.1] : List Int)).getD 0 (0 : Int)) + (1 : Int))) (w64 ((2 : Int) + (Int.tmod (w64 (side0)) (5 : Int))))))).bind fun r12 =>
   cond (r12 == (13 : Int)) (cond (r11.2 == (0 : Int)) (cond ((r11.1.length : Int) == (((l17_f ++ ([r9.1] : List Int)).set 0 (Int.tmod (w64 (((l17_f ++ ([r9.1] : List Int)).getD 0 (0 : Int)) + (1 : Int))) (w64 ((2 : Int) + (Int.tmod (w64 (side0)) (5 : Int)))))).length : Int)) ((a9).bind fun r13 =>
   some r13)
   (some false))
   (some false))
   (some false))))))))))
   (cond ((l17_f.length : Int) == (0 : Int)) (chk (small (l17_f.length + 1) 8) ((a20 o59_c (l17_f ++ ([(0 : Int)] : List Int))).bind fun r14 =>
   chk (small ((l17_f ++ ([(0 : Int)] : List Int)).length + 1) 8) (cond (r14.2 != (0 : Int)) (some false)
   ((a21 o59_c ((l17_f ++ ([(0 : Int)] : List Int)) ++ ([r14.1] : List Int))).bind fun r15 =>
   cond (r15 != (0 : Int)) (some false)
   (chk (decide (0 ≤ (0 : Int) ∧ (0 : Int) < (((l17_f ++ ([(0 : Int)] : List Int)) ++ ([r14.1] : List Int)).length : Int))) (chk (decide (w64 ((2 : Int) + (Int.tmod (w64 (side0)) (5 : Int))) ≠ (0 : Int))) (chk (decide (0 ≤ (0 : Int) ∧ (0 : Int) < (((l17_f ++ ([(0 : Int)] : List Int)) ++ ([r14.1] : List Int)).length : Int))) ((a22 o59_c (((l17_f ++ ([(0 : Int)] : List Int)) ++ ([r14.1] : List Int)).set 0 (Int.tmod (w64 ((((l17_f ++ ([(0 : Int)] : List Int)) ++ ([r14.1] : List Int)).getD 0 (0 : Int)) + (1 : Int))) (w64 ((2 : Int) + (Int.tmod (w64 (side0)) (5 : Int))))))).bind fun r16 =>
   (a21 o59_c (((l17_f ++ ([(0 : Int)] : List Int)) ++ ([r14.1] : List Int)).set 0 (Int.tmod (w64 ((((l17_f ++ ([(0 : Int)] : List Int)) ++ ([r14.1] : List Int)).getD 0 (0 : Int)) + (1 : Int))) (w64 ((2 : Int) + (Int.tmod (w64 (side0)) (5 : Int))))))).bind fun r17 =>
   cond (r17 == (13 : Int)) (cond (r16.2 == (0 : Int)) (cond ((r16.1.length : Int) == ((((l17_f ++ ([(0 : Int)] : List Int)) ++ ([r14.1] : List Int)).set 0 (Int.tmod (w64 ((((l17_f ++ ([(0 : Int)] : List Int)) ++ ([r14.1] : List Int)).getD 0 (0 : Int)) + (1 : Int))) (w64 ((2 : Int) + (Int.tmod (w64 (side0)) (5 : Int)))))).length : Int)) ((a9).bind fun r18 =>
   some r18)
   (some false))
   (some false))
   (some false)))))))))
   ((a20 o59_c l17_f).bind fun r19 =>
   chk (small (l17_f.length + 1) 8) (cond (r19.2 != (0 : Int)) (some false)
   ((a21 o59_c (l17_f ++ ([r19.1] : List Int))).bind fun r20 =>
   cond (r20 != (0 : Int)) (some false)
   (chk (decide (0 ≤ (0 : Int) ∧ (0 : Int) < ((l17_f ++ ([r19.1] : List Int)).length : Int))) (chk (decide (w64 ((2 : Int) + (Int.tmod (w64 (side0)) (5 : Int))) ≠ (0 : Int))) (chk (decide (0 ≤ (0 : Int) ∧ (0 : Int) < ((l17_f ++ ([r19.1] : List Int)).length : Int))) ((a22 o59_c ((l17_f ++ ([r19.1] : List Int)).set 0 (Int.tmod (w64 (((l17_f ++ ([r19.1] : List Int)).getD 0 (0 : Int)) + (1 : Int))) (w64 ((2 : Int) + (Int.tmod (w64 (side0)) (5 : Int))))))).bind fun r21 =>
   (a21 o59_c ((l17_f ++ ([r19.1] : List Int)).set 0 (Int.tmod (w64 (((l17_f ++ ([r19.1] : List Int)).getD 0 (0 : Int)) + (1 : Int))) (w64 ((2 : Int) + (Int.tmod (w64 (side0)) (5 : Int))))))).bind fun r22 =>
   cond (r22 == (13 : Int)) (cond (r21.2 == (0 : Int)) (cond ((r21.1.length : Int) == (((l17_f ++ ([r19.1] : List Int)).set 0 (Int.tmod (w64 (((l17_f ++ ([r19.1] : List Int)).getD 0 (0 : Int)) + (1 : Int))) (w64 ((2 : Int) + (Int.tmod (w64 (side0)) (5 : Int)))))).length : Int)) ((a9).bind fun r23 =>
   some r23)
   (some false))
   (some false))
   (some false)))))))))
theorem wl5f (a13 : (List (List Int)) → Option (Int)) (a18 : (List (List Int)) → Int → Option (List (Int × List Int × Unit) × Int)) (a19 : (List (List Int)) → Int → (List (Int × List Int × Unit)) → Option (Int)) (a20 : (List (List Int)) → (List Int) → Option (Int × Int)) (a21 : (List (List Int)) → (List Int) → Option (Int)) (a22 : (List (List Int)) → (List Int) → Option (List (Int × Int × Unit) × Int)) (a9 : Option (Bool)) (N : Nat) (side0 : Int) (digits1 : List Int) (o59_c : List (List Int)) (m : Nat) (i18_f : Int) (l17_f : List Int) : R5_5 a13 a18 a19 a20 a21 a22 a9 N (m + 1) (Sl5f side0 digits1 o59_c i18_f l17_f) = cond (decide (i18_f < (digits1.length : Int))) (cond (decide (i18_f < (9 : Int))) (chk (decide (0 ≤ i18_f ∧ i18_f < (digits1.length : Int))) (chk (decide (w64 ((2 : Int) + (Int.tmod (w64 (side0)) (5 : Int))) ≠ (0 : Int))) (chk (small (l17_f.length + 1) 8) ((R5_5 a13 a18 a19 a20 a21 a22 a9 N m (Sl5f side0 digits1 o59_c (w64 (i18_f + (1 : Int))) (l17_f ++ ([Int.tmod (w64 (digits1.getD i18_f.toNat (0 : Int))) (w64 ((2 : Int) + (Int.tmod (w64 (side0)) (5 : Int))))] : List Int))))))))
   (cond ((l17_f.length : Int) == (0 : Int)) (chk (small (l17_f.length + 1) 8) ((a20 o59_c (l17_f ++ ([(0 : Int)] : List Int))).bind fun r4 =>
   chk (small ((l17_f ++ ([(0 : Int)] : List Int)).length + 1) 8) (cond (r4.2 != (0 : Int)) (some false)
   ((a21 o59_c ((l17_f ++ ([(0 : Int)] : List Int)) ++ ([r4.1] : List Int))).bind fun r5 =>
   cond (r5 != (0 : Int)) (some false)
   (chk (decide (0 ≤ (0 : Int) ∧ (0 : Int) < (((l17_f ++ ([(0 : Int)] : List Int)) ++ ([r4.1] : List Int)).length : Int))) (chk (decide (w64 ((2 : Int) + (Int.tmod (w64 (side0)) (5 : Int))) ≠ (0 : Int))) (chk (decide (0 ≤ (0 : Int) ∧ (0 : Int) < (((l17_f ++ ([(0 : Int)] : List Int)) ++ ([r4.1] : List Int)).length : Int))) ((a22 o59_c (((l17_f ++ ([(0 : Int)] : List Int)) ++ ([r4.1] : List Int)).set 0 (Int.tmod (w64 ((((l17_f ++ ([(0 : Int)] : List Int)) ++ ([r4.1] : List Int)).getD 0 (0 : Int)) + (1 : Int))) (w64 ((2 : Int) + (Int.tmod (w64 (side0)) (5 : Int))))))).bind fun r6 =>
   (a21 o59_c (((l17_f ++ ([(0 : Int)] : List Int)) ++ ([r4.1] : List Int)).set 0 (Int.tmod (w64 ((((l17_f ++ ([(0 : Int)] : List Int)) ++ ([r4.1] : List Int)).getD 0 (0 : Int)) + (1 : Int))) (w64 ((2 : Int) + (Int.tmod (w64 (side0)) (5 : Int))))))).bind fun r7 =>
   cond (r7 == (13 : Int)) (cond (r6.2 == (0 : Int)) (cond ((r6.1.length : Int) == ((((l17_f ++ ([(0 : Int)] : List Int)) ++ ([r4.1] : List Int)).set 0 (Int.tmod (w64 ((((l17_f ++ ([(0 : Int)] : List Int)) ++ ([r4.1] : List Int)).getD 0 (0 : Int)) + (1 : Int))) (w64 ((2 : Int) + (Int.tmod (w64 (side0)) (5 : Int)))))).length : Int)) ((a9).bind fun r8 =>
   some r8)
   (some false))
   (some false))
   (some false)))))))))
   ((a20 o59_c l17_f).bind fun r9 =>
   chk (small (l17_f.length + 1) 8) (cond (r9.2 != (0 : Int)) (some false)
   ((a21 o59_c (l17_f ++ ([r9.1] : List Int))).bind fun r10 =>
   cond (r10 != (0 : Int)) (some false)
   (chk (decide (0 ≤ (0 : Int) ∧ (0 : Int) < ((l17_f ++ ([r9.1] : List Int)).length : Int))) (chk (decide (w64 ((2 : Int) + (Int.tmod (w64 (side0)) (5 : Int))) ≠ (0 : Int))) (chk (decide (0 ≤ (0 : Int) ∧ (0 : Int) < ((l17_f ++ ([r9.1] : List Int)).length : Int))) ((a22 o59_c ((l17_f ++ ([r9.1] : List Int)).set 0 (Int.tmod (w64 (((l17_f ++ ([r9.1] : List Int)).getD 0 (0 : Int)) + (1 : Int))) (w64 ((2 : Int) + (Int.tmod (w64 (side0)) (5 : Int))))))).bind fun r11 =>
   (a21 o59_c ((l17_f ++ ([r9.1] : List Int)).set 0 (Int.tmod (w64 (((l17_f ++ ([r9.1] : List Int)).getD 0 (0 : Int)) + (1 : Int))) (w64 ((2 : Int) + (Int.tmod (w64 (side0)) (5 : Int))))))).bind fun r12 =>
   cond (r12 == (13 : Int)) (cond (r11.2 == (0 : Int)) (cond ((r11.1.length : Int) == (((l17_f ++ ([r9.1] : List Int)).set 0 (Int.tmod (w64 (((l17_f ++ ([r9.1] : List Int)).getD 0 (0 : Int)) + (1 : Int))) (w64 ((2 : Int) + (Int.tmod (w64 (side0)) (5 : Int)))))).length : Int)) ((a9).bind fun r13 =>
   some r13)
   (some false))
   (some false))
   (some false))))))))))
   (cond ((l17_f.length : Int) == (0 : Int)) (chk (small (l17_f.length + 1) 8) ((a20 o59_c (l17_f ++ ([(0 : Int)] : List Int))).bind fun r14 =>
   chk (small ((l17_f ++ ([(0 : Int)] : List Int)).length + 1) 8) (cond (r14.2 != (0 : Int)) (some false)
   ((a21 o59_c ((l17_f ++ ([(0 : Int)] : List Int)) ++ ([r14.1] : List Int))).bind fun r15 =>
   cond (r15 != (0 : Int)) (some false)
   (chk (decide (0 ≤ (0 : Int) ∧ (0 : Int) < (((l17_f ++ ([(0 : Int)] : List Int)) ++ ([r14.1] : List Int)).length : Int))) (chk (decide (w64 ((2 : Int) + (Int.tmod (w64 (side0)) (5 : Int))) ≠ (0 : Int))) (chk (decide (0 ≤ (0 : Int) ∧ (0 : Int) < (((l17_f ++ ([(0 : Int)] : List Int)) ++ ([r14.1] : List Int)).length : Int))) ((a22 o59_c (((l17_f ++ ([(0 : Int)] : List Int)) ++ ([r14.1] : List Int)).set 0 (Int.tmod (w64 ((((l17_f ++ ([(0 : Int)] : List Int)) ++ ([r14.1] : List Int)).getD 0 (0 : Int)) + (1 : Int))) (w64 ((2 : Int) + (Int.tmod (w64 (side0)) (5 : Int))))))).bind fun r16 =>
   (a21 o59_c (((l17_f ++ ([(0 : Int)] : List Int)) ++ ([r14.1] : List Int)).set 0 (Int.tmod (w64 ((((l17_f ++ ([(0 : Int)] : List Int)) ++ ([r14.1] : List Int)).getD 0 (0 : Int)) + (1 : Int))) (w64 ((2 : Int) + (Int.tmod (w64 (side0)) (5 : Int))))))).bind fun r17 =>
   cond (r17 == (13 : Int)) (cond (r16.2 == (0 : Int)) (cond ((r16.1.length : Int) == ((((l17_f ++ ([(0 : Int)] : List Int)) ++ ([r14.1] : List Int)).set 0 (Int.tmod (w64 ((((l17_f ++ ([(0 : Int)] : List Int)) ++ ([r14.1] : List Int)).getD 0 (0 : Int)) + (1 : Int))) (w64 ((2 : Int) + (Int.tmod (w64 (side0)) (5 : Int)))))).length : Int)) ((a9).bind fun r18 =>
   some r18)
   (some false))
   (some false))
   (some false)))))))))
   ((a20 o59_c l17_f).bind fun r19 =>
   chk (small (l17_f.length + 1) 8) (cond (r19.2 != (0 : Int)) (some false)
   ((a21 o59_c (l17_f ++ ([r19.1] : List Int))).bind fun r20 =>
   cond (r20 != (0 : Int)) (some false)
   (chk (decide (0 ≤ (0 : Int) ∧ (0 : Int) < ((l17_f ++ ([r19.1] : List Int)).length : Int))) (chk (decide (w64 ((2 : Int) + (Int.tmod (w64 (side0)) (5 : Int))) ≠ (0 : Int))) (chk (decide (0 ≤ (0 : Int) ∧ (0 : Int) < ((l17_f ++ ([r19.1] : List Int)).length : Int))) ((a22 o59_c ((l17_f ++ ([r19.1] : List Int)).set 0 (Int.tmod (w64 (((l17_f ++ ([r19.1] : List Int)).getD 0 (0 : Int)) + (1 : Int))) (w64 ((2 : Int) + (Int.tmod (w64 (side0)) (5 : Int))))))).bind fun r21 =>
   (a21 o59_c ((l17_f ++ ([r19.1] : List Int)).set 0 (Int.tmod (w64 (((l17_f ++ ([r19.1] : List Int)).getD 0 (0 : Int)) + (1 : Int))) (w64 ((2 : Int) + (Int.tmod (w64 (side0)) (5 : Int))))))).bind fun r22 =>
   cond (r22 == (13 : Int)) (cond (r21.2 == (0 : Int)) (cond ((r21.1.length : Int) == (((l17_f ++ ([r19.1] : List Int)).set 0 (Int.tmod (w64 (((l17_f ++ ([r19.1] : List Int)).getD 0 (0 : Int)) + (1 : Int))) (w64 ((2 : Int) + (Int.tmod (w64 (side0)) (5 : Int)))))).length : Int)) ((a9).bind fun r23 =>
   some r23)
   (some false))
   (some false))
   (some false))))))))) := by kernel_rfl
theorem ql5f (a13 : (List (List Int)) → Option (Int)) (a18 : (List (List Int)) → Int → Option (List (Int × List Int × Unit) × Int)) (a19 : (List (List Int)) → Int → (List (Int × List Int × Unit)) → Option (Int)) (a20 : (List (List Int)) → (List Int) → Option (Int × Int)) (a21 : (List (List Int)) → (List Int) → Option (Int)) (a22 : (List (List Int)) → (List Int) → Option (List (Int × Int × Unit) × Int)) (a9 : Option (Bool)) (N : Nat) (side0 : Int) (digits1 : List Int) (o59_c : List (List Int)) : ∀ (m : Nat) (i18_f : Int) (l17_f : List Int), R5_5 a13 a18 a19 a20 a21 a22 a9 N m (Sl5f side0 digits1 o59_c i18_f l17_f) = l5f a13 a18 a19 a20 a21 a22 a9 N side0 digits1 o59_c m i18_f l17_f
        | 0, _, _ => rfl
        | m + 1, i18_f, l17_f => by rw [wl5f]; simp only [l5f, ql5f a13 a18 a19 a20 a21 a22 a9 N side0 digits1 o59_c m]
def l5c (a13 : (List (List Int)) → Option (Int)) (a18 : (List (List Int)) → Int → Option (List (Int × List Int × Unit) × Int)) (a19 : (List (List Int)) → Int → (List (Int × List Int × Unit)) → Option (Int)) (a20 : (List (List Int)) → (List Int) → Option (Int × Int)) (a21 : (List (List Int)) → (List Int) → Option (Int)) (a22 : (List (List Int)) → (List Int) → Option (List (Int × Int × Unit) × Int)) (a9 : Option (Bool)) (N : Nat) (side0 : Int) (digits1 : List Int) (r1 : List (Int × List Int × Unit) × Int) : Nat → Int → (List (List Int)) → Option (Bool)
 | 0, _, _ => none
 | n + 1, t62_c, o59_c => cond (decide (t62_c < (r1.1.length : Int))) (chk (decide (0 ≤ t62_c ∧ t62_c < (r1.1.length : Int))) (cond (decide (((r1.1.getD t62_c.toNat ((0 : Int), (([] : List Int), ()))).1) < (1 : Int))) (some false)
   (cond (decide (((r1.1.getD t62_c.toNat ((0 : Int), (([] : List Int), ()))).1) > (w64 ((2 : Int) + (Int.tmod (w64 (side0)) (5 : Int)))))) (some false)
   (cond (((((r1.1.getD t62_c.toNat ((0 : Int), (([] : List Int), ()))).2).1).length : Int) != (w64 ((2 : Int) + (Int.tmod (w64 (side0)) (5 : Int))))) (some false)
   ((l5d a13 a18 a19 a20 a21 a22 a9 N side0 digits1 r1 t62_c (fun y0 y1 => (l5c a13 a18 a19 a20 a21 a22 a9 N side0 digits1 r1 n y0 y1)) N (0 : Int) o59_c))))))
   ((a13 o59_c).bind fun r3 =>
   cond (r3 != (0 : Int)) (some false)
   ((l5f a13 a18 a19 a20 a21 a22 a9 N side0 digits1 o59_c N (0 : Int) ([] : List Int))))
theorem wl5c (a13 : (List (List Int)) → Option (Int)) (a18 : (List (List Int)) → Int → Option (List (Int × List Int × Unit) × Int)) (a19 : (List (List Int)) → Int → (List (Int × List Int × Unit)) → Option (Int)) (a20 : (List (List Int)) → (List Int) → Option (Int × Int)) (a21 : (List (List Int)) → (List Int) → Option (Int)) (a22 : (List (List Int)) → (List Int) → Option (List (Int × Int × Unit) × Int)) (a9 : Option (Bool)) (N : Nat) (side0 : Int) (digits1 : List Int) (r1 : List (Int × List Int × Unit) × Int) (m : Nat) (t62_c : Int) (o59_c : List (List Int)) : R5_2 a13 a18 a19 a20 a21 a22 a9 N (m + 1) (Sl5c side0 digits1 r1 t62_c o59_c) = cond (decide (t62_c < (r1.1.length : Int))) (chk (decide (0 ≤ t62_c ∧ t62_c < (r1.1.length : Int))) (cond (decide (((r1.1.getD t62_c.toNat ((0 : Int), (([] : List Int), ()))).1) < (1 : Int))) (some false)
   (cond (decide (((r1.1.getD t62_c.toNat ((0 : Int), (([] : List Int), ()))).1) > (w64 ((2 : Int) + (Int.tmod (w64 (side0)) (5 : Int)))))) (some false)
   (cond (((((r1.1.getD t62_c.toNat ((0 : Int), (([] : List Int), ()))).2).1).length : Int) != (w64 ((2 : Int) + (Int.tmod (w64 (side0)) (5 : Int))))) (some false)
   ((R5_3 a13 a18 a19 a20 a21 a22 a9 N (R5_2 a13 a18 a19 a20 a21 a22 a9 N m) N (Sl5d side0 digits1 r1 t62_c (0 : Int) o59_c)))))))
   ((a13 o59_c).bind fun r3 =>
   cond (r3 != (0 : Int)) (some false)
   ((R5_5 a13 a18 a19 a20 a21 a22 a9 N N (Sl5f side0 digits1 o59_c (0 : Int) ([] : List Int))))) := by kernel_rfl
theorem ql5c (a13 : (List (List Int)) → Option (Int)) (a18 : (List (List Int)) → Int → Option (List (Int × List Int × Unit) × Int)) (a19 : (List (List Int)) → Int → (List (Int × List Int × Unit)) → Option (Int)) (a20 : (List (List Int)) → (List Int) → Option (Int × Int)) (a21 : (List (List Int)) → (List Int) → Option (Int)) (a22 : (List (List Int)) → (List Int) → Option (List (Int × Int × Unit) × Int)) (a9 : Option (Bool)) (N : Nat) (side0 : Int) (digits1 : List Int) (r1 : List (Int × List Int × Unit) × Int) : ∀ (m : Nat) (t62_c : Int) (o59_c : List (List Int)), R5_2 a13 a18 a19 a20 a21 a22 a9 N m (Sl5c side0 digits1 r1 t62_c o59_c) = l5c a13 a18 a19 a20 a21 a22 a9 N side0 digits1 r1 m t62_c o59_c
        | 0, _, _ => rfl
        | m + 1, t62_c, o59_c => by rw [wl5c]; simp only [l5c, ql5d, ql5f, ql5c a13 a18 a19 a20 a21 a22 a9 N side0 digits1 r1 m]
def l5a (a13 : (List (List Int)) → Option (Int)) (a18 : (List (List Int)) → Int → Option (List (Int × List Int × Unit) × Int)) (a19 : (List (List Int)) → Int → (List (Int × List Int × Unit)) → Option (Int)) (a20 : (List (List Int)) → (List Int) → Option (Int × Int)) (a21 : (List (List Int)) → (List Int) → Option (Int)) (a22 : (List (List Int)) → (List Int) → Option (List (Int × Int × Unit) × Int)) (a9 : Option (Bool)) (N : Nat) (side0 : Int) (digits1 : List Int) : Nat → Int → (List (List Int)) → Option (Bool)
 | 0, _, _ => none
 | n + 1, i7_a, work6_a => cond (decide (i7_a < (w64 ((2 : Int) + (Int.tmod (w64 (side0)) (5 : Int)))))) ((l5b a13 a18 a19 a20 a21 a22 a9 N side0 digits1 i7_a work6_a (fun y0 y1 => (l5a a13 a18 a19 a20 a21 a22 a9 N side0 digits1 n y0 y1)) N (0 : Int) ([] : List Int)))
   ((a18 work6_a (w64 ((2 : Int) + (Int.tmod (w64 (side0)) (5 : Int))))).bind fun r1 =>
   cond (r1.2 != (0 : Int)) (some false)
   ((a19 work6_a (w64 ((2 : Int) + (Int.tmod (w64 (side0)) (5 : Int)))) r1.1).bind fun r2 =>
   cond (r2 != (0 : Int)) (some false)
   (chk (mkOk (w64 ((2 : Int) + (Int.tmod (w64 (side0)) (5 : Int)))) (w64 ((2 : Int) + (Int.tmod (w64 (side0)) (5 : Int)))) 24) ((l5c a13 a18 a19 a20 a21 a22 a9 N side0 digits1 r1 N (0 : Int) (List.replicate ((w64 ((2 : Int) + (Int.tmod (w64 (side0)) (5 : Int)))).toNat) ([] : List Int)))))))
theorem wl5a (a13 : (List (List Int)) → Option (Int)) (a18 : (List (List Int)) → Int → Option (List (Int × List Int × Unit) × Int)) (a19 : (List (List Int)) → Int → (List (Int × List Int × Unit)) → Option (Int)) (a20 : (List (List Int)) → (List Int) → Option (Int × Int)) (a21 : (List (List Int)) → (List Int) → Option (Int)) (a22 : (List (List Int)) → (List Int) → Option (List (Int × Int × Unit) × Int)) (a9 : Option (Bool)) (N : Nat) (side0 : Int) (digits1 : List Int) (m : Nat) (i7_a : Int) (work6_a : List (List Int)) : R5_0 a13 a18 a19 a20 a21 a22 a9 N (m + 1) (Sl5a side0 digits1 i7_a work6_a) = cond (decide (i7_a < (w64 ((2 : Int) + (Int.tmod (w64 (side0)) (5 : Int)))))) ((R5_1 a13 a18 a19 a20 a21 a22 a9 N (R5_0 a13 a18 a19 a20 a21 a22 a9 N m) N (Sl5b side0 digits1 i7_a work6_a (0 : Int) ([] : List Int))))
   ((a18 work6_a (w64 ((2 : Int) + (Int.tmod (w64 (side0)) (5 : Int))))).bind fun r1 =>
   cond (r1.2 != (0 : Int)) (some false)
   ((a19 work6_a (w64 ((2 : Int) + (Int.tmod (w64 (side0)) (5 : Int)))) r1.1).bind fun r2 =>
   cond (r2 != (0 : Int)) (some false)
   (chk (mkOk (w64 ((2 : Int) + (Int.tmod (w64 (side0)) (5 : Int)))) (w64 ((2 : Int) + (Int.tmod (w64 (side0)) (5 : Int)))) 24) ((R5_2 a13 a18 a19 a20 a21 a22 a9 N N (Sl5c side0 digits1 r1 (0 : Int) (List.replicate ((w64 ((2 : Int) + (Int.tmod (w64 (side0)) (5 : Int)))).toNat) ([] : List Int)))))))) := by kernel_rfl
theorem ql5a (a13 : (List (List Int)) → Option (Int)) (a18 : (List (List Int)) → Int → Option (List (Int × List Int × Unit) × Int)) (a19 : (List (List Int)) → Int → (List (Int × List Int × Unit)) → Option (Int)) (a20 : (List (List Int)) → (List Int) → Option (Int × Int)) (a21 : (List (List Int)) → (List Int) → Option (Int)) (a22 : (List (List Int)) → (List Int) → Option (List (Int × Int × Unit) × Int)) (a9 : Option (Bool)) (N : Nat) (side0 : Int) (digits1 : List Int) : ∀ (m : Nat) (i7_a : Int) (work6_a : List (List Int)), R5_0 a13 a18 a19 a20 a21 a22 a9 N m (Sl5a side0 digits1 i7_a work6_a) = l5a a13 a18 a19 a20 a21 a22 a9 N side0 digits1 m i7_a work6_a
        | 0, _, _ => rfl
        | m + 1, i7_a, work6_a => by rw [wl5a]; simp only [l5a, ql5b, ql5c, ql5a a13 a18 a19 a20 a21 a22 a9 N side0 digits1 m]
def m5 (a13 : (List (List Int)) → Option (Int)) (a18 : (List (List Int)) → Int → Option (List (Int × List Int × Unit) × Int)) (a19 : (List (List Int)) → Int → (List (Int × List Int × Unit)) → Option (Int)) (a20 : (List (List Int)) → (List Int) → Option (Int × Int)) (a21 : (List (List Int)) → (List Int) → Option (Int)) (a22 : (List (List Int)) → (List Int) → Option (List (Int × Int × Unit) × Int)) (a9 : Option (Bool)) (N : Nat) (side0 : Int) (digits1 : List Int) : Option (Bool) :=
   (l5a a13 a18 a19 a20 a21 a22 a9 N side0 digits1 N (0 : Int) ([] : List (List Int)))
theorem wm5 (a13 : (List (List Int)) → Option (Int)) (a18 : (List (List Int)) → Int → Option (List (Int × List Int × Unit) × Int)) (a19 : (List (List Int)) → Int → (List (Int × List Int × Unit)) → Option (Int)) (a20 : (List (List Int)) → (List Int) → Option (Int × Int)) (a21 : (List (List Int)) → (List Int) → Option (Int)) (a22 : (List (List Int)) → (List Int) → Option (List (Int × Int × Unit) × Int)) (a9 : Option (Bool)) (N : Nat) (side0 : Int) (digits1 : List Int) : callF (E5 a13 a18 a19 a20 a21 a22 a9) lv5 N en5 c5 (resOf Try.f5) 184 [.dv (.int .u8) side0, .dv (.sl (.int .u8)) digits1] [] dec5 = (R5_0 a13 a18 a19 a20 a21 a22 a9 N N (Sl5a side0 digits1 (0 : Int) ([] : List (List Int)))) := by kernel_rfl
theorem k5 (a13 : (List (List Int)) → Option (Int)) (a18 : (List (List Int)) → Int → Option (List (Int × List Int × Unit) × Int)) (a19 : (List (List Int)) → Int → (List (Int × List Int × Unit)) → Option (Int)) (a20 : (List (List Int)) → (List Int) → Option (Int × Int)) (a21 : (List (List Int)) → (List Int) → Option (Int)) (a22 : (List (List Int)) → (List Int) → Option (List (Int × Int × Unit) × Int)) (a9 : Option (Bool)) (N : Nat) (side0 : Int) (digits1 : List Int) : callF (E5 a13 a18 a19 a20 a21 a22 a9) lv5 N en5 c5 (resOf Try.f5) 184 [.dv (.int .u8) side0, .dv (.sl (.int .u8)) digits1] [] dec5 = m5 a13 a18 a19 a20 a21 a22 a9 N side0 digits1 := by rw [wm5]; simp only [m5, ql5a]
theorem ok5 (a13 : (List (List Int)) → Option (Int)) (a18 : (List (List Int)) → Int → Option (List (Int × List Int × Unit) × Int)) (a19 : (List (List Int)) → Int → (List (Int × List Int × Unit)) → Option (Int)) (a20 : (List (List Int)) → (List Int) → Option (Int × Int)) (a21 : (List (List Int)) → (List Int) → Option (Int)) (a22 : (List (List Int)) → (List Int) → Option (List (Int × Int × Unit) × Int)) (a9 : Option (Bool)) (h13 : FnOk Try.prog 13 (F13 a13)) (h18 : FnOk Try.prog 18 (F18 a18)) (h19 : FnOk Try.prog 19 (F19 a19)) (h20 : FnOk Try.prog 20 (F20 a20)) (h21 : FnOk Try.prog 21 (F21 a21)) (h22 : FnOk Try.prog 22 (F22 a22)) (h9 : FnOk Try.prog 9 (F9 a9)) (a : Int → (List Int) → Option (Bool)) (h : ∀ side0 digits1 r, a side0 digits1 = some r → (∃ N, m5 a13 a18 a19 a20 a21 a22 a9 N side0 digits1 = some r)) : FnOk Try.prog 5 (F5 a) := by
 intro args Of x hx
 simp only [F5] at hx
 split at hx
 ·rename_i side0 digits1
  obtain ⟨N, hN⟩ := h _ _ _ hx
  refine lifted (L := [(13, F13 a13), (18, F18 a18), (19, F19 a19), (20, F20 a20), (21, F21 a21), (22, F22 a22), (9, F9 a9)]) (rc := nrc) (fz := (fun i => ([59] : List Nat).contains i)) (fn := Try.f5) (by kernel_rfl) (by kernel_rfl) (by kernel_rfl) (by kernel_rfl) rfl ?_ ((k5 a13 a18 a19 a20 a21 a22 a9 N _ _).trans hN) ?_
  ·intro p hp; simp only [List.mem_cons, List.not_mem_nil, or_false] at hp; rcases hp with rfl | rfl | rfl | rfl | rfl | rfl | rfl
   ·exact h13
   ·exact h18
   ·exact h19
   ·exact h20
   ·exact h21
   ·exact h22
   ·exact h9
  ·intro l o hd
   simp only [dec5] at hd
   split at hd
   ·obtain rfl := oij hd; exact ⟨rfl, rfl⟩
   ·cases hd
 ·cases hx
end Go.Proofs.Ytplbdongegfdnaa
