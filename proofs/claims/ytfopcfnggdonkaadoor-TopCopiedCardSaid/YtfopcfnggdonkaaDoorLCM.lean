/-
 The functions that the law reaches, told as plain functions.
-/
import Derived.Test.YtfopcfnggdonkaaDoorQFI
namespace Go.Proofs.YtfopcfnggdonkaaDoor
open Go.RowKit
set_option linter.unusedVariables false
def E19 : Env := mkE TI TY [] nrc nfz
noncomputable def c19 : Code := bodyOf Tryd.f19
def nm19_0 : Norm := ⟨[2, 3, 8, 9, 10], [2, 3], [], []⟩
def nm19_1 : Norm := ⟨[2, 3, 8, 9, 10, 14, 15, 16], [2, 3], [], []⟩
def lv19 : Nat → Option Norm := norms [(3, nm19_0), (6, nm19_1)]
def en19 : End := ⟨[(31, .arr 8 (.int .u8))], ⟨[31], [], [], []⟩⟩
def dec19 (l : List TV) (o : List (Nat × TO)) : Option (List Int) := match l, o with | [.dv (.arr 8 (.int .u8)) x0], [] => some (x0) | _, _ => none
def Sl19b (words0 : List (List Int)) (t10_a : Int) (t16_b : Int) (o3_b : List (List Int)) : TS := ⟨slots 31 [(2, .ptr 2 0 []), (3, .ptr 3 0 []), (8, .dv (.sl (.sl (.int .i64))) words0), (9, .dv (.int .i64) (words0.length : Int)), (10, .dv (.int .i64) t10_a), (14, .dv (.sl (.int .i64)) (words0.getD t10_a.toNat ([] : List Int))), (15, .dv (.int .i64) ((words0.getD t10_a.toNat ([] : List Int)).length : Int)), (16, .dv (.int .i64) t16_b)], [(2, .row (.arr 8 (.int .u8)) ([([(0 : Int), (0 : Int), (0 : Int), (0 : Int), (0 : Int), (0 : Int), (0 : Int), (0 : Int)] : List Int)] : List (List Int))), (3, .row (.arr 8 (.int .u8)) o3_b)]⟩
def Sl19a (words0 : List (List Int)) (t10_a : Int) (o3_a : List (List Int)) : TS := ⟨slots 31 [(2, .ptr 2 0 []), (3, .ptr 3 0 []), (8, .dv (.sl (.sl (.int .i64))) words0), (9, .dv (.int .i64) (words0.length : Int)), (10, .dv (.int .i64) t10_a)], [(2, .row (.arr 8 (.int .u8)) ([([(0 : Int), (0 : Int), (0 : Int), (0 : Int), (0 : Int), (0 : Int), (0 : Int), (0 : Int)] : List Int)] : List (List Int))), (3, .row (.arr 8 (.int .u8)) o3_a)]⟩
noncomputable def K19_0 (N : Nat) : Kont (List Int) := kont (E19) lv19 N c19 [1, 1, 0, 1, 0] (fin TI en19 (resOf Tryd.f19) dec19)
noncomputable def R19_0 (N : Nat) (m : Nat) : TS → Option (List Int) := loopK (den (E19) lv19 N (sub c19 [1, 1, 0, 1, 0, 0])) (TS.norm nm19_0) (K19_0 N) m
noncomputable def K19_1 (N : Nat) (T19_0 : TS → Option (List Int)) : Kont (List Int) := kont (E19) lv19 N (sub c19 [1, 1, 0, 1, 0, 0]) [1, 1, 0, 0, 1, 1, 0] (kloop (TS.norm nm19_0) (K19_0 N) T19_0)
noncomputable def R19_1 (N : Nat) (T19_0 : TS → Option (List Int)) (m : Nat) : TS → Option (List Int) := loopK (den (E19) lv19 N (sub c19 [1, 1, 0, 1, 0, 0, 1, 1, 0, 0, 1, 1, 0, 0])) (TS.norm nm19_1) (K19_1 N T19_0) m
def l19b (N : Nat) (words0 : List (List Int)) (t10_a : Int) (rec_l19a : Int → (List (List Int)) → Option (List Int)) : Nat → Int → (List (List Int)) → Option (List Int)
 | 0, _, _ => none
 | n + 1, t16_b, o3_b => cond (decide (t16_b < ((words0.getD t10_a.toNat ([] : List Int)).length : Int))) (chk (decide (0 ≤ t16_b ∧ t16_b < ((words0.getD t10_a.toNat ([] : List Int)).length : Int))) (chk (decide (0 ≤ t16_b ∧ t16_b < (8 : Int))) (chk (decide (0 ≤ (words0.getD t10_a.toNat ([] : List Int)).getD t16_b.toNat (0 : Int))) (chk (decide (0 ≤ t16_b ∧ t16_b < (8 : Int))) (chk ((decide (t16_b.toNat < (o3_b.getD 0 ([(0 : Int), (0 : Int), (0 : Int), (0 : Int), (0 : Int), (0 : Int), (0 : Int), (0 : Int)] : List Int)).length)) && (true)) ((l19b N words0 t10_a rec_l19a n (w64 (t16_b + (1 : Int))) (o3_b.set 0 ((o3_b.getD 0 ([(0 : Int), (0 : Int), (0 : Int), (0 : Int), (0 : Int), (0 : Int), (0 : Int), (0 : Int)] : List Int)).set t16_b.toNat (bOr .u8 ((o3_b.getD 0 ([(0 : Int), (0 : Int), (0 : Int), (0 : Int), (0 : Int), (0 : Int), (0 : Int), (0 : Int)] : List Int)).getD t16_b.toNat (0 : Int)) (IntKind.wrap .u8 ((1 : Int) * 2 ^ min (Int.toNat ((words0.getD t10_a.toNat ([] : List Int)).getD t16_b.toNat (0 : Int))) 8))))))))))))
   ((rec_l19a (w64 (t10_a + (1 : Int))) o3_b))
theorem wl19b (N : Nat) (words0 : List (List Int)) (t10_a : Int) (T19_0 : TS → Option (List Int)) (m : Nat) (t16_b : Int) (o3_b : List (List Int)) : R19_1 N T19_0 (m + 1) (Sl19b words0 t10_a t16_b o3_b) = cond (decide (t16_b < ((words0.getD t10_a.toNat ([] : List Int)).length : Int))) (chk (decide (0 ≤ t16_b ∧ t16_b < ((words0.getD t10_a.toNat ([] : List Int)).length : Int))) (chk (decide (0 ≤ t16_b ∧ t16_b < (8 : Int))) (chk (decide (0 ≤ (words0.getD t10_a.toNat ([] : List Int)).getD t16_b.toNat (0 : Int))) (chk (decide (0 ≤ t16_b ∧ t16_b < (8 : Int))) (chk ((decide (t16_b.toNat < (o3_b.getD 0 ([(0 : Int), (0 : Int), (0 : Int), (0 : Int), (0 : Int), (0 : Int), (0 : Int), (0 : Int)] : List Int)).length)) && (true)) ((R19_1 N T19_0 m (Sl19b words0 t10_a (w64 (t16_b + (1 : Int))) (o3_b.set 0 ((o3_b.getD 0 ([(0 : Int), (0 : Int), (0 : Int), (0 : Int), (0 : Int), (0 : Int), (0 : Int), (0 : Int)] : List Int)).set t16_b.toNat (bOr .u8 ((o3_b.getD 0 ([(0 : Int), (0 : Int), (0 : Int), (0 : Int), (0 : Int), (0 : Int), (0 : Int), (0 : Int)] : List Int)).getD t16_b.toNat (0 : Int)) (IntKind.wrap .u8 ((1 : Int) * 2 ^ min (Int.toNat ((words0.getD t10_a.toNat ([] : List Int)).getD t16_b.toNat (0 : Int))) 8)))))))))))))
   ((T19_0 (Sl19a words0 (w64 (t10_a + (1 : Int))) o3_b))) := by kernel_rfl
theorem ql19b (N : Nat) (words0 : List (List Int)) (t10_a : Int) (T19_0 : TS → Option (List Int)) : ∀ (m : Nat) (t16_b : Int) (o3_b : List (List Int)), R19_1 N T19_0 m (Sl19b words0 t10_a t16_b o3_b) = l19b N words0 t10_a (fun y0 y1 => T19_0 (Sl19a words0 y0 y1)) m t16_b o3_b
        | 0, _, _ => rfl
        | m + 1, t16_b, o3_b => by rw [wl19b]; simp only [l19b, ql19b N words0 t10_a T19_0 m]
def l19a (N : Nat) (words0 : List (List Int)) : Nat → Int → (List (List Int)) → Option (List Int)
 | 0, _, _ => none
 | n + 1, t10_a, o3_a => cond (decide (t10_a < (words0.length : Int))) (chk (decide (0 ≤ t10_a ∧ t10_a < (words0.length : Int))) ((l19b N words0 t10_a (fun y0 y1 => (l19a N words0 n y0 y1)) N (0 : Int) o3_a)))
   (some (o3_a.getD 0 ([(0 : Int), (0 : Int), (0 : Int), (0 : Int), (0 : Int), (0 : Int), (0 : Int), (0 : Int)] : List Int)))
theorem wl19a (N : Nat) (words0 : List (List Int)) (m : Nat) (t10_a : Int) (o3_a : List (List Int)) : R19_0 N (m + 1) (Sl19a words0 t10_a o3_a) = cond (decide (t10_a < (words0.length : Int))) (chk (decide (0 ≤ t10_a ∧ t10_a < (words0.length : Int))) ((R19_1 N (R19_0 N m) N (Sl19b words0 t10_a (0 : Int) o3_a))))
   (some (o3_a.getD 0 ([(0 : Int), (0 : Int), (0 : Int), (0 : Int), (0 : Int), (0 : Int), (0 : Int), (0 : Int)] : List Int))) := by kernel_rfl
theorem ql19a (N : Nat) (words0 : List (List Int)) : ∀ (m : Nat) (t10_a : Int) (o3_a : List (List Int)), R19_0 N m (Sl19a words0 t10_a o3_a) = l19a N words0 m t10_a o3_a
        | 0, _, _ => rfl
        | m + 1, t10_a, o3_a => by rw [wl19a]; simp only [l19a, ql19b, ql19a N words0 m]
def m19 (N : Nat) (words0 : List (List Int)) : Option (List Int) :=
   (l19a N words0 N (0 : Int) ([([(0 : Int), (0 : Int), (0 : Int), (0 : Int), (0 : Int), (0 : Int), (0 : Int), (0 : Int)] : List Int)] : List (List Int)))
theorem wm19 (N : Nat) (words0 : List (List Int)) : callF (E19) lv19 N en19 c19 (resOf Tryd.f19) 30 [.dv (.sl (.sl (.int .i64))) words0] [] dec19 = (R19_0 N N (Sl19a words0 (0 : Int) ([([(0 : Int), (0 : Int), (0 : Int), (0 : Int), (0 : Int), (0 : Int), (0 : Int), (0 : Int)] : List Int)] : List (List Int)))) := by kernel_rfl
theorem k19 (N : Nat) (words0 : List (List Int)) : callF (E19) lv19 N en19 c19 (resOf Tryd.f19) 30 [.dv (.sl (.sl (.int .i64))) words0] [] dec19 = m19 N words0 := by rw [wm19]; simp only [m19, ql19a]
theorem ok19 (a : Y19) (h : ∀ words0 r, a words0 = some r → (∃ N, m19 N words0 = some r)) : FnOk Tryd.prog 19 (F19 a) := by
 intro args Of x hx
 simp only [F19] at hx
 split at hx
 ·rename_i words0
  obtain ⟨N, hN⟩ := h _ _ hx
  refine lifted (L := []) (rc := nrc) (fz := nfz) (fn := Tryd.f19) (by kernel_rfl) (by kernel_rfl) (by kernel_rfl) (by kernel_rfl) rfl ?_ ((k19 N _).trans hN) ?_
  ·intro p hp; cases hp
  ·intro l o hd
   simp only [dec19] at hd
   split at hd
   ·obtain rfl := Option.some.inj hd; exact ⟨rfl, rfl⟩
   ·cases hd
 ·cases hx
def E10 (a19 : Y19) : Env := mkE TI TY [(19, F19 a19)] nrc nfz
noncomputable def c10 : Code := bodyOf Tryd.f10
def nm10_0 : Norm := ⟨[2, 4, 5, 10, 11, 12], [2, 4, 5], [], []⟩
def nm10_1 : Norm := ⟨[2, 4, 5, 10, 11, 12, 22, 23], [2, 4, 5], [], []⟩
def lv10 : Nat → Option Norm := norms [(3, nm10_0), (6, nm10_1)]
def en10 : End := ⟨[(36, .arr 8 (.int .u8))], ⟨[36], [], [], []⟩⟩
def dec10 (l : List TV) (o : List (Nat × TO)) : Option (List Int) := match l, o with | [.dv (.arr 8 (.int .u8)) x0], [] => some (x0) | _, _ => none
def Sl10b (cx0 : Int × List (List Int) × Unit) (lx1 : List Int) (t12_a : Int) (r1 : List Int) (t23_b : Int) (o5_b : List (List Int)) : TS := ⟨slots 36 [(2, .ptr 2 0 []), (4, .ptr 4 0 []), (5, .ptr 5 0 []), (10, .dv (.sl (.int .i64)) lx1), (11, .dv (.int .i64) (lx1.length : Int)), (12, .dv (.int .i64) t12_a), (22, .dv (.arr 8 (.int .u8)) r1), (23, .dv (.int .i64) t23_b)], [(2, .row (.pair (.int .i64) (.pair (.sl (.sl (.int .i64))) (.unit))) ([cx0] : List Cd)), (4, .row (.arr 8 (.int .u8)) ([([(0 : Int), (0 : Int), (0 : Int), (0 : Int), (0 : Int), (0 : Int), (0 : Int), (0 : Int)] : List Int)] : List (List Int))), (5, .row (.arr 8 (.int .u8)) o5_b)]⟩
def Sl10a (cx0 : Int × List (List Int) × Unit) (lx1 : List Int) (t12_a : Int) (o5_a : List (List Int)) : TS := ⟨slots 36 [(2, .ptr 2 0 []), (4, .ptr 4 0 []), (5, .ptr 5 0 []), (10, .dv (.sl (.int .i64)) lx1), (11, .dv (.int .i64) (lx1.length : Int)), (12, .dv (.int .i64) t12_a)], [(2, .row (.pair (.int .i64) (.pair (.sl (.sl (.int .i64))) (.unit))) ([cx0] : List Cd)), (4, .row (.arr 8 (.int .u8)) ([([(0 : Int), (0 : Int), (0 : Int), (0 : Int), (0 : Int), (0 : Int), (0 : Int), (0 : Int)] : List Int)] : List (List Int))), (5, .row (.arr 8 (.int .u8)) o5_a)]⟩
noncomputable def K10_0 (a19 : Y19) (N : Nat) : Kont (List Int) := kont (E10 a19) lv10 N c10 [1, 1, 0, 1, 0] (fin TI en10 (resOf Tryd.f10) dec10)
noncomputable def R10_0 (a19 : Y19) (N : Nat) (m : Nat) : TS → Option (List Int) := loopK (den (E10 a19) lv10 N (sub c10 [1, 1, 0, 1, 0, 0])) (TS.norm nm10_0) (K10_0 a19 N) m
noncomputable def K10_1 (a19 : Y19) (N : Nat) (T10_0 : TS → Option (List Int)) : Kont (List Int) := kont (E10 a19) lv10 N (sub c10 [1, 1, 0, 1, 0, 0]) [1, 1, 0, 0, 1, 1, 0] (kloop (TS.norm nm10_0) (K10_0 a19 N) T10_0)
noncomputable def R10_1 (a19 : Y19) (N : Nat) (T10_0 : TS → Option (List Int)) (m : Nat) : TS → Option (List Int) := loopK (den (E10 a19) lv10 N (sub c10 [1, 1, 0, 1, 0, 0, 1, 1, 0, 0, 1, 1, 0, 0])) (TS.norm nm10_1) (K10_1 a19 N T10_0) m
def l10b (a19 : Y19) (N : Nat) (cx0 : Int × List (List Int) × Unit) (lx1 : List Int) (t12_a : Int) (r1 : List Int) (rec_l10a : Int → (List (List Int)) → Option (List Int)) : Nat → Int → (List (List Int)) → Option (List Int)
 | 0, _, _ => none
 | n + 1, t23_b, o5_b => cond (decide (t23_b < (8 : Int))) (chk (decide (0 ≤ t23_b ∧ t23_b < (8 : Int))) (chk (decide (0 ≤ t23_b ∧ t23_b < (8 : Int))) (chk (decide (0 ≤ t23_b ∧ t23_b < (8 : Int))) (chk ((decide (t23_b.toNat < (o5_b.getD 0 ([(0 : Int), (0 : Int), (0 : Int), (0 : Int), (0 : Int), (0 : Int), (0 : Int), (0 : Int)] : List Int)).length)) && (true)) ((l10b a19 N cx0 lx1 t12_a r1 rec_l10a n (w64 (t23_b + (1 : Int))) (o5_b.set 0 ((o5_b.getD 0 ([(0 : Int), (0 : Int), (0 : Int), (0 : Int), (0 : Int), (0 : Int), (0 : Int), (0 : Int)] : List Int)).set t23_b.toNat (bOr .u8 ((o5_b.getD 0 ([(0 : Int), (0 : Int), (0 : Int), (0 : Int), (0 : Int), (0 : Int), (0 : Int), (0 : Int)] : List Int)).getD t23_b.toNat (0 : Int)) (r1.getD t23_b.toNat (0 : Int)))))))))))
   ((rec_l10a (w64 (t12_a + (1 : Int))) o5_b))
theorem wl10b (a19 : Y19) (N : Nat) (cx0 : Int × List (List Int) × Unit) (lx1 : List Int) (t12_a : Int) (r1 : List Int) (T10_0 : TS → Option (List Int)) (m : Nat) (t23_b : Int) (o5_b : List (List Int)) : R10_1 a19 N T10_0 (m + 1) (Sl10b cx0 lx1 t12_a r1 t23_b o5_b) = cond (decide (t23_b < (8 : Int))) (chk (decide (0 ≤ t23_b ∧ t23_b < (8 : Int))) (chk (decide (0 ≤ t23_b ∧ t23_b < (8 : Int))) (chk (decide (0 ≤ t23_b ∧ t23_b < (8 : Int))) (chk ((decide (t23_b.toNat < (o5_b.getD 0 ([(0 : Int), (0 : Int), (0 : Int), (0 : Int), (0 : Int), (0 : Int), (0 : Int), (0 : Int)] : List Int)).length)) && (true)) ((R10_1 a19 N T10_0 m (Sl10b cx0 lx1 t12_a r1 (w64 (t23_b + (1 : Int))) (o5_b.set 0 ((o5_b.getD 0 ([(0 : Int), (0 : Int), (0 : Int), (0 : Int), (0 : Int), (0 : Int), (0 : Int), (0 : Int)] : List Int)).set t23_b.toNat (bOr .u8 ((o5_b.getD 0 ([(0 : Int), (0 : Int), (0 : Int), (0 : Int), (0 : Int), (0 : Int), (0 : Int), (0 : Int)] : List Int)).getD t23_b.toNat (0 : Int)) (r1.getD t23_b.toNat (0 : Int))))))))))))
   ((T10_0 (Sl10a cx0 lx1 (w64 (t12_a + (1 : Int))) o5_b))) := by kernel_rfl
theorem ql10b (a19 : Y19) (N : Nat) (cx0 : Int × List (List Int) × Unit) (lx1 : List Int) (t12_a : Int) (r1 : List Int) (T10_0 : TS → Option (List Int)) : ∀ (m : Nat) (t23_b : Int) (o5_b : List (List Int)), R10_1 a19 N T10_0 m (Sl10b cx0 lx1 t12_a r1 t23_b o5_b) = l10b a19 N cx0 lx1 t12_a r1 (fun y0 y1 => T10_0 (Sl10a cx0 lx1 y0 y1)) m t23_b o5_b
        | 0, _, _ => rfl
        | m + 1, t23_b, o5_b => by rw [wl10b]; simp only [l10b, ql10b a19 N cx0 lx1 t12_a r1 T10_0 m]
def l10a (a19 : Y19) (N : Nat) (cx0 : Int × List (List Int) × Unit) (lx1 : List Int) : Nat → Int → (List (List Int)) → Option (List Int)
 | 0, _, _ => none
 | n + 1, t12_a, o5_a => cond (decide (t12_a < (lx1.length : Int))) (chk (decide (0 ≤ t12_a ∧ t12_a < (lx1.length : Int))) (chk (decide (0 ≤ lx1.getD t12_a.toNat (0 : Int) ∧ lx1.getD t12_a.toNat (0 : Int) < (cx0.2.1.length : Int))) ((a19 ([cx0.2.1.getD ((lx1.getD t12_a.toNat (0 : Int)).toNat) ([] : List Int)] : List (List Int))).bind fun r1 =>
   (l10b a19 N cx0 lx1 t12_a r1 (fun y0 y1 => (l10a a19 N cx0 lx1 n y0 y1)) N (0 : Int) o5_a))))
   (some (o5_a.getD 0 ([(0 : Int), (0 : Int), (0 : Int), (0 : Int), (0 : Int), (0 : Int), (0 : Int), (0 : Int)] : List Int)))
theorem wl10a (a19 : Y19) (N : Nat) (cx0 : Int × List (List Int) × Unit) (lx1 : List Int) (m : Nat) (t12_a : Int) (o5_a : List (List Int)) : R10_0 a19 N (m + 1) (Sl10a cx0 lx1 t12_a o5_a) = cond (decide (t12_a < (lx1.length : Int))) (chk (decide (0 ≤ t12_a ∧ t12_a < (lx1.length : Int))) (chk (decide (0 ≤ lx1.getD t12_a.toNat (0 : Int) ∧ lx1.getD t12_a.toNat (0 : Int) < (cx0.2.1.length : Int))) ((a19 ([cx0.2.1.getD ((lx1.getD t12_a.toNat (0 : Int)).toNat) ([] : List Int)] : List (List Int))).bind fun r1 =>
   (R10_1 a19 N (R10_0 a19 N m) N (Sl10b cx0 lx1 t12_a r1 (0 : Int) o5_a)))))
   (some (o5_a.getD 0 ([(0 : Int), (0 : Int), (0 : Int), (0 : Int), (0 : Int), (0 : Int), (0 : Int), (0 : Int)] : List Int))) := by kernel_rfl
theorem ql10a (a19 : Y19) (N : Nat) (cx0 : Int × List (List Int) × Unit) (lx1 : List Int) : ∀ (m : Nat) (t12_a : Int) (o5_a : List (List Int)), R10_0 a19 N m (Sl10a cx0 lx1 t12_a o5_a) = l10a a19 N cx0 lx1 m t12_a o5_a
        | 0, _, _ => rfl
        | m + 1, t12_a, o5_a => by rw [wl10a]; simp only [l10a, ql10b, ql10a a19 N cx0 lx1 m]
def m10 (a19 : Y19) (N : Nat) (cx0 : Int × List (List Int) × Unit) (lx1 : List Int) : Option (List Int) :=
   (l10a a19 N cx0 lx1 N (0 : Int) ([([(0 : Int), (0 : Int), (0 : Int), (0 : Int), (0 : Int), (0 : Int), (0 : Int), (0 : Int)] : List Int)] : List (List Int)))
theorem wm10 (a19 : Y19) (N : Nat) (cx0 : Int × List (List Int) × Unit) (lx1 : List Int) : callF (E10 a19) lv10 N en10 c10 (resOf Tryd.f10) 34 [.dv (.pair (.int .i64) (.pair (.sl (.sl (.int .i64))) (.unit))) cx0, .dv (.sl (.int .i64)) lx1] [] dec10 = (R10_0 a19 N N (Sl10a cx0 lx1 (0 : Int) ([([(0 : Int), (0 : Int), (0 : Int), (0 : Int), (0 : Int), (0 : Int), (0 : Int), (0 : Int)] : List Int)] : List (List Int)))) := by kernel_rfl
theorem k10 (a19 : Y19) (N : Nat) (cx0 : Int × List (List Int) × Unit) (lx1 : List Int) : callF (E10 a19) lv10 N en10 c10 (resOf Tryd.f10) 34 [.dv (.pair (.int .i64) (.pair (.sl (.sl (.int .i64))) (.unit))) cx0, .dv (.sl (.int .i64)) lx1] [] dec10 = m10 a19 N cx0 lx1 := by rw [wm10]; simp only [m10, ql10a]
theorem ok10 (a19 : Y19) (h19 : FnOk Tryd.prog 19 (F19 a19)) (a : Y10) (h : ∀ cx0 lx1 r, a cx0 lx1 = some r → (∃ N, m10 a19 N cx0 lx1 = some r)) : FnOk Tryd.prog 10 (F10 a) := by
 intro args Of x hx
 simp only [F10] at hx
 split at hx
 ·rename_i cx0 lx1
  obtain ⟨N, hN⟩ := h _ _ _ hx
  refine lifted (L := [(19, F19 a19)]) (rc := nrc) (fz := nfz) (fn := Tryd.f10) (by kernel_rfl) (by kernel_rfl) (by kernel_rfl) (by kernel_rfl) rfl ?_ ((k10 a19 N _ _).trans hN) ?_
  ·intro p hp; simp only [List.mem_cons, List.not_mem_nil, or_false] at hp; rcases hp with rfl; exact h19
  ·intro l o hd
   simp only [dec10] at hd
   split at hd
   ·obtain rfl := Option.some.inj hd; exact ⟨rfl, rfl⟩
   ·cases hd
 ·cases hx
def E14 : Env := mkE TI TY [] nrc nfz
noncomputable def c14 : Code := bodyOf Tryd.f14
def lv14 : Nat → Option Norm := norms []
def en14 : End := ⟨[], ⟨[15], [], [], []⟩⟩
def dec14 (l : List TV) (o : List (Nat × TO)) : Option (Bool) := match l, o with | [.dv (.bool) x0], [] => some (x0) | _, _ => none
def m14 (N : Nat) (lo0 : Int) (n1 : Int) (hi2 : Int) : Option (Bool) :=
   cond (decide (lo0 ≤ n1)) (some (decide (n1 ≤ hi2)))
   (some false)
theorem k14 (N : Nat) (lo0 : Int) (n1 : Int) (hi2 : Int) : callF (E14) lv14 N en14 c14 (resOf Tryd.f14) 12 [.dv (.int .i64) lo0, .dv (.int .i64) n1, .dv (.int .i64) hi2] [] dec14 = m14 N lo0 n1 hi2 := by kernel_rfl
theorem ok14 (a : Y14) (h : ∀ lo0 n1 hi2 r, a lo0 n1 hi2 = some r → (∃ N, m14 N lo0 n1 hi2 = some r)) : FnOk Tryd.prog 14 (F14 a) := by
 intro args Of x hx
 simp only [F14] at hx
 split at hx
 ·rename_i lo0 n1 hi2
  obtain ⟨N, hN⟩ := h _ _ _ _ hx
  refine lifted (L := []) (rc := nrc) (fz := nfz) (fn := Tryd.f14) (by kernel_rfl) (by kernel_rfl) (by kernel_rfl) (by kernel_rfl) rfl ?_ ((k14 N _ _ _).trans hN) ?_
  ·intro p hp; cases hp
  ·intro l o hd
   simp only [dec14] at hd
   split at hd
   ·obtain rfl := Option.some.inj hd; exact ⟨rfl, rfl⟩
   ·cases hd
 ·cases hx
def E15 : Env := mkE TI TY [] nrc nfz
noncomputable def c15 : Code := bodyOf Tryd.f15
def lv15 : Nat → Option Norm := norms []
def en15 : End := ⟨[], ⟨[8], [], [], []⟩⟩
def dec15 (l : List TV) (o : List (Nat × TO)) : Option (Int) := match l, o with | [.dv (.int .i64) x0], [] => some (x0) | _, _ => none
def m15 (N : Nat) (cx0 : Int × List (List Int) × Unit) : Option (Int) :=
   chk (decide (0 ≤ (0 : Int) ∧ (0 : Int) < (cx0.2.1.length : Int))) (some ((cx0.2.1.getD 0 ([] : List Int)).length : Int))
theorem k15 (N : Nat) (cx0 : Int × List (List Int) × Unit) : callF (E15) lv15 N en15 c15 (resOf Tryd.f15) 7 [.dv (.pair (.int .i64) (.pair (.sl (.sl (.int .i64))) (.unit))) cx0] [] dec15 = m15 N cx0 := by kernel_rfl
theorem ok15 (a : Y15) (h : ∀ cx0 r, a cx0 = some r → (∃ N, m15 N cx0 = some r)) : FnOk Tryd.prog 15 (F15 a) := by
 intro args Of x hx
 simp only [F15] at hx
 split at hx
 ·rename_i cx0
  obtain ⟨N, hN⟩ := h _ _ hx
  refine lifted (L := []) (rc := nrc) (fz := nfz) (fn := Tryd.f15) (by kernel_rfl) (by kernel_rfl) (by kernel_rfl) (by kernel_rfl) rfl ?_ ((k15 N _).trans hN) ?_
  ·intro p hp; cases hp
  ·intro l o hd
   simp only [dec15] at hd
   split at hd
   ·obtain rfl := Option.some.inj hd; exact ⟨rfl, rfl⟩
   ·cases hd
 ·cases hx
def E17c (a15 : Y15) : Env := mkE TI TY [(15, F15 a15)] nrc nfz
noncomputable def c17c : Code := bodyOf Tryd.f17
def lv17c : Nat → Option Norm := norms []
def en17c : End := ⟨[], ⟨[9], [9000], [], []⟩⟩
def dec17c (l : List TV) (o : List (Nat × TO)) : Option (Bool × List Cd) := match l, o with | [.dv (.bool) x0], [(9000, .row (.pair (.int .i64) (.pair (.sl (.sl (.int .i64))) (.unit))) x1)] => some (x0, x1) | _, _ => none
def m17c (a15 : Y15) (N : Nat) (wx0 : List Int) (p1 : List Cd) : Option (Bool × List Cd) :=
   (a15 (p1.getD 0 ((0 : Int), (([] : List (List Int)), ())))).bind fun r1 =>
   some ((wx0.length : Int) != r1, p1)
theorem k17c (a15 : Y15) (N : Nat) (wx0 : List Int) (p1 : List Cd) : callF (E17c a15) lv17c N en17c c17c (resOf Tryd.f17) 7 [.dv (.sl (.int .i64)) wx0, .ptr 9000 0 []] [(9000, .row (.pair (.int .i64) (.pair (.sl (.sl (.int .i64))) (.unit))) p1)] dec17c = m17c a15 N wx0 p1 := by kernel_rfl
theorem ok17c (a15 : Y15) (h15 : FnOk Tryd.prog 15 (F15 a15)) (a : Y17c) (h : ∀ wx0 p1 r, a wx0 p1 = some r → (∃ N, m17c a15 N wx0 p1 = some r)) : FnOk Tryd.prog 17 (F17c a) := by
 intro args Of x hx
 simp only [F17c] at hx
 split at hx
 ·rename_i wx0 p1
  obtain ⟨N, hN⟩ := h _ _ _ hx
  refine lifted (L := [(15, F15 a15)]) (rc := nrc) (fz := nfz) (fn := Tryd.f17) (by kernel_rfl) (by kernel_rfl) (by kernel_rfl) (by kernel_rfl) rfl ?_ ((k17c a15 N _ _).trans hN) ?_
  ·intro p hp; simp only [List.mem_cons, List.not_mem_nil, or_false] at hp; rcases hp with rfl; exact h15
  ·intro l o hd
   simp only [dec17c] at hd
   split at hd
   ·obtain rfl := Option.some.inj hd; exact ⟨rfl, rfl⟩
   ·cases hd
 ·cases hx
def E27c17 (a17c : Y17c) : Env := mkE TI TY [(17, F17c a17c)] nrc nfz
noncomputable def c27c17 : Code := bodyOf Tryd.f27
def nm27c17_0 : Norm := ⟨[0, 1, 7, 8], [9000], [], []⟩
def lv27c17 : Nat → Option Norm := norms [(2, nm27c17_0)]
def en27c17 : End := ⟨[], ⟨[19], [9000], [], []⟩⟩
def dec27c17 (l : List TV) (o : List (Nat × TO)) : Option (Int × List Cd) := match l, o with | [.dv (.int .i64) x0], [(9000, .row (.pair (.int .i64) (.pair (.sl (.sl (.int .i64))) (.unit))) x1)] => some (x0, x1) | _, _ => none
def Sl27c17a (s0 : List (List Int)) (t8_a : Int) (o9000_a : List Cd) : TS := ⟨slots 19 [(0, .dv (.sl (.sl (.int .i64))) s0), (1, .fn 17 0 1 fun i => ([.ptr 9000 0 []] : List TV).getD i .any), (7, .dv (.int .i64) (s0.length : Int)), (8, .dv (.int .i64) t8_a)], [(9000, .row (.pair (.int .i64) (.pair (.sl (.sl (.int .i64))) (.unit))) o9000_a)]⟩
noncomputable def K27c17_0 (a17c : Y17c) (N : Nat) : Kont (Int × List Cd) := kont (E27c17 a17c) lv27c17 N c27c17 [1, 0, 1, 0] (fin TI en27c17 (resOf Tryd.f27) dec27c17)
noncomputable def R27c17_0 (a17c : Y17c) (N : Nat) (m : Nat) : TS → Option (Int × List Cd) := loopK (den (E27c17 a17c) lv27c17 N (sub c27c17 [1, 0, 1, 0, 0])) (TS.norm nm27c17_0) (K27c17_0 a17c N) m
def l27c17a (a17c : Y17c) (N : Nat) (s0 : List (List Int)) : Nat → Int → (List Cd) → Option (Int × List Cd)
 | 0, _, _ => none
 | n + 1, t8_a, o9000_a => cond (decide (t8_a < (s0.length : Int))) (chk (decide (0 ≤ t8_a ∧ t8_a < (s0.length : Int))) ((a17c (s0.getD t8_a.toNat ([] : List Int)) o9000_a).bind fun r1 =>
   cond (r1.1) (some (t8_a, r1.2))
   ((l27c17a a17c N s0 n (w64 (t8_a + (1 : Int))) r1.2))))
   (some ((-1 : Int), o9000_a))
theorem wl27c17a (a17c : Y17c) (N : Nat) (s0 : List (List Int)) (m : Nat) (t8_a : Int) (o9000_a : List Cd) : R27c17_0 a17c N (m + 1) (Sl27c17a s0 t8_a o9000_a) = cond (decide (t8_a < (s0.length : Int))) (chk (decide (0 ≤ t8_a ∧ t8_a < (s0.length : Int))) ((a17c (s0.getD t8_a.toNat ([] : List Int)) o9000_a).bind fun r1 =>
   cond (r1.1) (some (t8_a, r1.2))
   ((R27c17_0 a17c N m (Sl27c17a s0 (w64 (t8_a + (1 : Int))) r1.2)))))
   (some ((-1 : Int), o9000_a)) := by kernel_rfl
theorem ql27c17a (a17c : Y17c) (N : Nat) (s0 : List (List Int)) : ∀ (m : Nat) (t8_a : Int) (o9000_a : List Cd), R27c17_0 a17c N m (Sl27c17a s0 t8_a o9000_a) = l27c17a a17c N s0 m t8_a o9000_a
        | 0, _, _ => rfl
        | m + 1, t8_a, o9000_a => by rw [wl27c17a]; simp only [l27c17a, ql27c17a a17c N s0 m]
def m27c17 (a17c : Y17c) (N : Nat) (s0 : List (List Int)) (p1 : List Cd) : Option (Int × List Cd) :=
   (l27c17a a17c N s0 N (0 : Int) p1)
theorem wm27c17 (a17c : Y17c) (N : Nat) (s0 : List (List Int)) (p1 : List Cd) : callF (E27c17 a17c) lv27c17 N en27c17 c27c17 (resOf Tryd.f27) 17 [.dv (.sl (.sl (.int .i64))) s0, .fn 17 0 1 fun i => ([.ptr 9000 0 []] : List TV).getD i .any] [(9000, .row (.pair (.int .i64) (.pair (.sl (.sl (.int .i64))) (.unit))) p1)] dec27c17 = (R27c17_0 a17c N N (Sl27c17a s0 (0 : Int) p1)) := by kernel_rfl
theorem k27c17 (a17c : Y17c) (N : Nat) (s0 : List (List Int)) (p1 : List Cd) : callF (E27c17 a17c) lv27c17 N en27c17 c27c17 (resOf Tryd.f27) 17 [.dv (.sl (.sl (.int .i64))) s0, .fn 17 0 1 fun i => ([.ptr 9000 0 []] : List TV).getD i .any] [(9000, .row (.pair (.int .i64) (.pair (.sl (.sl (.int .i64))) (.unit))) p1)] dec27c17 = m27c17 a17c N s0 p1 := by rw [wm27c17]; simp only [m27c17, ql27c17a]
theorem ok27c17 (a17c : Y17c) (h17c : FnOk Tryd.prog 17 (F17c a17c)) (a : Y27c17) (h : ∀ s0 p1 r, a s0 p1 = some r → (∃ N, m27c17 a17c N s0 p1 = some r)) : FnOk Tryd.prog 27 (F27c17 a) := by
 intro args Of x hx
 simp only [F27c17] at hx
 split at hx
 ·rename_i s0 f_0 p1 heqc
  have hc0 := congrArg (fun c : List (List TV) => c.getD 0 []) heqc
  obtain ⟨N, hN⟩ := h _ _ _ hx
  refine HSpec.etaL (args := [.dv (.sl (.sl (.int .i64))) s0, .fn 17 0 1 fun i => ([.ptr 9000 0 []] : List TV).getD i .any]) (O := [(9000, .row (.pair (.int .i64) (.pair (.sl (.sl (.int .i64))) (.unit))) p1)]) ⟨TV.sim_refl _, TV.sim_fn hc0, trivial⟩ ⟨rfl, TO.sim_refl _, trivial⟩ (lifted (L := [(17, F17c a17c)]) (rc := nrc) (fz := nfz) (fn := Tryd.f27) (by kernel_rfl) (by kernel_rfl) (by kernel_rfl) (by kernel_rfl) rfl ?_ ((k27c17 a17c N _ _).trans hN) ?_)
  ·intro p hp; simp only [List.mem_cons, List.not_mem_nil, or_false] at hp; rcases hp with rfl; exact h17c
  ·intro l o hd
   simp only [dec27c17] at hd
   split at hd
   ·obtain rfl := Option.some.inj hd; exact ⟨rfl, rfl⟩
   ·cases hd
 ·cases hx
def E16c17 (a27c17 : Y27c17) : Env := mkE TI TY [(27, F27c17 a27c17)] nrc nfz
noncomputable def c16c17 : Code := bodyOf Tryd.f16
def lv16c17 : Nat → Option Norm := norms []
def en16c17 : End := ⟨[], ⟨[9], [9000], [], []⟩⟩
def dec16c17 (l : List TV) (o : List (Nat × TO)) : Option (Bool × List Cd) := match l, o with | [.dv (.bool) x0], [(9000, .row (.pair (.int .i64) (.pair (.sl (.sl (.int .i64))) (.unit))) x1)] => some (x0, x1) | _, _ => none
def m16c17 (a27c17 : Y27c17) (N : Nat) (s0 : List (List Int)) (p1 : List Cd) : Option (Bool × List Cd) :=
   (a27c17 s0 p1).bind fun r1 =>
   some (decide (r1.1 ≥ (0 : Int)), r1.2)
theorem k16c17 (a27c17 : Y27c17) (N : Nat) (s0 : List (List Int)) (p1 : List Cd) : callF (E16c17 a27c17) lv16c17 N en16c17 c16c17 (resOf Tryd.f16) 7 [.dv (.sl (.sl (.int .i64))) s0, .fn 17 0 1 fun i => ([.ptr 9000 0 []] : List TV).getD i .any] [(9000, .row (.pair (.int .i64) (.pair (.sl (.sl (.int .i64))) (.unit))) p1)] dec16c17 = m16c17 a27c17 N s0 p1 := by kernel_rfl
theorem ok16c17 (a27c17 : Y27c17) (h27c17 : FnOk Tryd.prog 27 (F27c17 a27c17)) (a : Y16c17) (h : ∀ s0 p1 r, a s0 p1 = some r → (∃ N, m16c17 a27c17 N s0 p1 = some r)) : FnOk Tryd.prog 16 (F16c17 a) := by
 intro args Of x hx
 simp only [F16c17] at hx
 split at hx
 ·rename_i s0 f_0 p1 heqc
  have hc0 := congrArg (fun c : List (List TV) => c.getD 0 []) heqc
  obtain ⟨N, hN⟩ := h _ _ _ hx
  refine HSpec.etaL (args := [.dv (.sl (.sl (.int .i64))) s0, .fn 17 0 1 fun i => ([.ptr 9000 0 []] : List TV).getD i .any]) (O := [(9000, .row (.pair (.int .i64) (.pair (.sl (.sl (.int .i64))) (.unit))) p1)]) ⟨TV.sim_refl _, TV.sim_fn hc0, trivial⟩ ⟨rfl, TO.sim_refl _, trivial⟩ (lifted (L := [(27, F27c17 a27c17)]) (rc := nrc) (fz := nfz) (fn := Tryd.f16) (by kernel_rfl) (by kernel_rfl) (by kernel_rfl) (by kernel_rfl) rfl ?_ ((k16c17 a27c17 N _ _).trans hN) ?_)
  ·intro p hp; simp only [List.mem_cons, List.not_mem_nil, or_false] at hp; rcases hp with rfl; exact h27c17
  ·intro l o hd
   simp only [dec16c17] at hd
   split at hd
   ·obtain rfl := Option.some.inj hd; exact ⟨rfl, rfl⟩
   ·cases hd
 ·cases hx
def E29c (a14 : Y14) : Env := mkE TI TY [(14, F14 a14)] nrc nfz
noncomputable def c29c : Code := bodyOf Tryd.f29
def lv29c : Nat → Option Norm := norms []
def en29c : End := ⟨[], ⟨[10], [9000], [], []⟩⟩
def dec29c (l : List TV) (o : List (Nat × TO)) : Option (Bool × List Cd) := match l, o with | [.dv (.bool) x0], [(9000, .row (.pair (.int .i64) (.pair (.sl (.sl (.int .i64))) (.unit))) x1)] => some (x0, x1) | _, _ => none
def m29c (a14 : Y14) (N : Nat) (mx0 : Int) (p1 : List Cd) : Option (Bool × List Cd) :=
   (a14 (0 : Int) mx0 (w64 (((p1.getD 0 ((0 : Int), (([] : List (List Int)), ()))).1) - (1 : Int)))).bind fun r1 =>
   some (!r1, p1)
theorem k29c (a14 : Y14) (N : Nat) (mx0 : Int) (p1 : List Cd) : callF (E29c a14) lv29c N en29c c29c (resOf Tryd.f29) 8 [.dv (.int .i64) mx0, .ptr 9000 0 []] [(9000, .row (.pair (.int .i64) (.pair (.sl (.sl (.int .i64))) (.unit))) p1)] dec29c = m29c a14 N mx0 p1 := by kernel_rfl
theorem ok29c (a14 : Y14) (h14 : FnOk Tryd.prog 14 (F14 a14)) (a : Y29c) (h : ∀ mx0 p1 r, a mx0 p1 = some r → (∃ N, m29c a14 N mx0 p1 = some r)) : FnOk Tryd.prog 29 (F29c a) := by
 intro args Of x hx
 simp only [F29c] at hx
 split at hx
 ·rename_i mx0 p1
  obtain ⟨N, hN⟩ := h _ _ _ hx
  refine lifted (L := [(14, F14 a14)]) (rc := nrc) (fz := nfz) (fn := Tryd.f29) (by kernel_rfl) (by kernel_rfl) (by kernel_rfl) (by kernel_rfl) rfl ?_ ((k29c a14 N _ _).trans hN) ?_
  ·intro p hp; simp only [List.mem_cons, List.not_mem_nil, or_false] at hp; rcases hp with rfl; exact h14
  ·intro l o hd
   simp only [dec29c] at hd
   split at hd
   ·obtain rfl := Option.some.inj hd; exact ⟨rfl, rfl⟩
   ·cases hd
 ·cases hx
def E37c29 (a29c : Y29c) : Env := mkE TI TY [(29, F29c a29c)] nrc nfz
noncomputable def c37c29 : Code := bodyOf Tryd.f37
def nm37c29_0 : Norm := ⟨[0, 1, 7, 8], [9000], [], []⟩
def lv37c29 : Nat → Option Norm := norms [(2, nm37c29_0)]
def en37c29 : End := ⟨[], ⟨[19], [9000], [], []⟩⟩
def dec37c29 (l : List TV) (o : List (Nat × TO)) : Option (Int × List Cd) := match l, o with | [.dv (.int .i64) x0], [(9000, .row (.pair (.int .i64) (.pair (.sl (.sl (.int .i64))) (.unit))) x1)] => some (x0, x1) | _, _ => none
def Sl37c29a (s0 : List Int) (t8_a : Int) (o9000_a : List Cd) : TS := ⟨slots 19 [(0, .dv (.sl (.int .i64)) s0), (1, .fn 29 0 1 fun i => ([.ptr 9000 0 []] : List TV).getD i .any), (7, .dv (.int .i64) (s0.length : Int)), (8, .dv (.int .i64) t8_a)], [(9000, .row (.pair (.int .i64) (.pair (.sl (.sl (.int .i64))) (.unit))) o9000_a)]⟩
noncomputable def K37c29_0 (a29c : Y29c) (N : Nat) : Kont (Int × List Cd) := kont (E37c29 a29c) lv37c29 N c37c29 [1, 0, 1, 0] (fin TI en37c29 (resOf Tryd.f37) dec37c29)
noncomputable def R37c29_0 (a29c : Y29c) (N : Nat) (m : Nat) : TS → Option (Int × List Cd) := loopK (den (E37c29 a29c) lv37c29 N (sub c37c29 [1, 0, 1, 0, 0])) (TS.norm nm37c29_0) (K37c29_0 a29c N) m
def l37c29a (a29c : Y29c) (N : Nat) (s0 : List Int) : Nat → Int → (List Cd) → Option (Int × List Cd)
 | 0, _, _ => none
 | n + 1, t8_a, o9000_a => cond (decide (t8_a < (s0.length : Int))) (chk (decide (0 ≤ t8_a ∧ t8_a < (s0.length : Int))) ((a29c (s0.getD t8_a.toNat (0 : Int)) o9000_a).bind fun r1 =>
   cond (r1.1) (some (t8_a, r1.2))
   ((l37c29a a29c N s0 n (w64 (t8_a + (1 : Int))) r1.2))))
   (some ((-1 : Int), o9000_a))
theorem wl37c29a (a29c : Y29c) (N : Nat) (s0 : List Int) (m : Nat) (t8_a : Int) (o9000_a : List Cd) : R37c29_0 a29c N (m + 1) (Sl37c29a s0 t8_a o9000_a) = cond (decide (t8_a < (s0.length : Int))) (chk (decide (0 ≤ t8_a ∧ t8_a < (s0.length : Int))) ((a29c (s0.getD t8_a.toNat (0 : Int)) o9000_a).bind fun r1 =>
   cond (r1.1) (some (t8_a, r1.2))
   ((R37c29_0 a29c N m (Sl37c29a s0 (w64 (t8_a + (1 : Int))) r1.2)))))
   (some ((-1 : Int), o9000_a)) := by kernel_rfl
theorem ql37c29a (a29c : Y29c) (N : Nat) (s0 : List Int) : ∀ (m : Nat) (t8_a : Int) (o9000_a : List Cd), R37c29_0 a29c N m (Sl37c29a s0 t8_a o9000_a) = l37c29a a29c N s0 m t8_a o9000_a
        | 0, _, _ => rfl
        | m + 1, t8_a, o9000_a => by rw [wl37c29a]; simp only [l37c29a, ql37c29a a29c N s0 m]
def m37c29 (a29c : Y29c) (N : Nat) (s0 : List Int) (p1 : List Cd) : Option (Int × List Cd) :=
   (l37c29a a29c N s0 N (0 : Int) p1)
theorem wm37c29 (a29c : Y29c) (N : Nat) (s0 : List Int) (p1 : List Cd) : callF (E37c29 a29c) lv37c29 N en37c29 c37c29 (resOf Tryd.f37) 17 [.dv (.sl (.int .i64)) s0, .fn 29 0 1 fun i => ([.ptr 9000 0 []] : List TV).getD i .any] [(9000, .row (.pair (.int .i64) (.pair (.sl (.sl (.int .i64))) (.unit))) p1)] dec37c29 = (R37c29_0 a29c N N (Sl37c29a s0 (0 : Int) p1)) := by kernel_rfl
theorem k37c29 (a29c : Y29c) (N : Nat) (s0 : List Int) (p1 : List Cd) : callF (E37c29 a29c) lv37c29 N en37c29 c37c29 (resOf Tryd.f37) 17 [.dv (.sl (.int .i64)) s0, .fn 29 0 1 fun i => ([.ptr 9000 0 []] : List TV).getD i .any] [(9000, .row (.pair (.int .i64) (.pair (.sl (.sl (.int .i64))) (.unit))) p1)] dec37c29 = m37c29 a29c N s0 p1 := by rw [wm37c29]; simp only [m37c29, ql37c29a]
theorem ok37c29 (a29c : Y29c) (h29c : FnOk Tryd.prog 29 (F29c a29c)) (a : Y37c29) (h : ∀ s0 p1 r, a s0 p1 = some r → (∃ N, m37c29 a29c N s0 p1 = some r)) : FnOk Tryd.prog 37 (F37c29 a) := by
 intro args Of x hx
 simp only [F37c29] at hx
 split at hx
 ·rename_i s0 f_0 p1 heqc
  have hc0 := congrArg (fun c : List (List TV) => c.getD 0 []) heqc
  obtain ⟨N, hN⟩ := h _ _ _ hx
  refine HSpec.etaL (args := [.dv (.sl (.int .i64)) s0, .fn 29 0 1 fun i => ([.ptr 9000 0 []] : List TV).getD i .any]) (O := [(9000, .row (.pair (.int .i64) (.pair (.sl (.sl (.int .i64))) (.unit))) p1)]) ⟨TV.sim_refl _, TV.sim_fn hc0, trivial⟩ ⟨rfl, TO.sim_refl _, trivial⟩ (lifted (L := [(29, F29c a29c)]) (rc := nrc) (fz := nfz) (fn := Tryd.f37) (by kernel_rfl) (by kernel_rfl) (by kernel_rfl) (by kernel_rfl) rfl ?_ ((k37c29 a29c N _ _).trans hN) ?_)
  ·intro p hp; simp only [List.mem_cons, List.not_mem_nil, or_false] at hp; rcases hp with rfl; exact h29c
  ·intro l o hd
   simp only [dec37c29] at hd
   split at hd
   ·obtain rfl := Option.some.inj hd; exact ⟨rfl, rfl⟩
   ·cases hd
 ·cases hx
def E28c29 (a37c29 : Y37c29) : Env := mkE TI TY [(37, F37c29 a37c29)] nrc nfz
noncomputable def c28c29 : Code := bodyOf Tryd.f28
def lv28c29 : Nat → Option Norm := norms []
def en28c29 : End := ⟨[], ⟨[9], [9000], [], []⟩⟩
def dec28c29 (l : List TV) (o : List (Nat × TO)) : Option (Bool × List Cd) := match l, o with | [.dv (.bool) x0], [(9000, .row (.pair (.int .i64) (.pair (.sl (.sl (.int .i64))) (.unit))) x1)] => some (x0, x1) | _, _ => none
def m28c29 (a37c29 : Y37c29) (N : Nat) (s0 : List Int) (p1 : List Cd) : Option (Bool × List Cd) :=
   (a37c29 s0 p1).bind fun r1 =>
   some (decide (r1.1 ≥ (0 : Int)), r1.2)
theorem k28c29 (a37c29 : Y37c29) (N : Nat) (s0 : List Int) (p1 : List Cd) : callF (E28c29 a37c29) lv28c29 N en28c29 c28c29 (resOf Tryd.f28) 7 [.dv (.sl (.int .i64)) s0, .fn 29 0 1 fun i => ([.ptr 9000 0 []] : List TV).getD i .any] [(9000, .row (.pair (.int .i64) (.pair (.sl (.sl (.int .i64))) (.unit))) p1)] dec28c29 = m28c29 a37c29 N s0 p1 := by kernel_rfl
theorem ok28c29 (a37c29 : Y37c29) (h37c29 : FnOk Tryd.prog 37 (F37c29 a37c29)) (a : Y28c29) (h : ∀ s0 p1 r, a s0 p1 = some r → (∃ N, m28c29 a37c29 N s0 p1 = some r)) : FnOk Tryd.prog 28 (F28c29 a) := by
 intro args Of x hx
 simp only [F28c29] at hx
 split at hx
 ·rename_i s0 f_0 p1 heqc
  have hc0 := congrArg (fun c : List (List TV) => c.getD 0 []) heqc
  obtain ⟨N, hN⟩ := h _ _ _ hx
  refine HSpec.etaL (args := [.dv (.sl (.int .i64)) s0, .fn 29 0 1 fun i => ([.ptr 9000 0 []] : List TV).getD i .any]) (O := [(9000, .row (.pair (.int .i64) (.pair (.sl (.sl (.int .i64))) (.unit))) p1)]) ⟨TV.sim_refl _, TV.sim_fn hc0, trivial⟩ ⟨rfl, TO.sim_refl _, trivial⟩ (lifted (L := [(37, F37c29 a37c29)]) (rc := nrc) (fz := nfz) (fn := Tryd.f28) (by kernel_rfl) (by kernel_rfl) (by kernel_rfl) (by kernel_rfl) rfl ?_ ((k28c29 a37c29 N _ _).trans hN) ?_)
  ·intro p hp; simp only [List.mem_cons, List.not_mem_nil, or_false] at hp; rcases hp with rfl; exact h37c29
  ·intro l o hd
   simp only [dec28c29] at hd
   split at hd
   ·obtain rfl := Option.some.inj hd; exact ⟨rfl, rfl⟩
   ·cases hd
 ·cases hx
def E18 (a15 : Y15) (a28c29 : Y28c29) : Env := mkE TI TY [(15, F15 a15), (28, F28c29 a28c29)] nrc nfz
noncomputable def c18 : Code := bodyOf Tryd.f18
def lv18 : Nat → Option Norm := norms []
def en18 : End := ⟨[], ⟨[15], [], [], []⟩⟩
def dec18 (l : List TV) (o : List (Nat × TO)) : Option (Int) := match l, o with | [.dv (.int .i64) x0], [] => some (x0) | _, _ => none
def m18 (a15 : Y15) (a28c29 : Y28c29) (N : Nat) (cx0 : Int × List (List Int) × Unit) (wx1 : List Int) : Option (Int) :=
   (a15 cx0).bind fun r1 =>
   cond ((wx1.length : Int) != r1) (some (3 : Int))
   ((a28c29 wx1 ([cx0] : List Cd)).bind fun r2 =>
   cond (r2.1) (some (4 : Int))
   (some (0 : Int)))
theorem k18 (a15 : Y15) (a28c29 : Y28c29) (N : Nat) (cx0 : Int × List (List Int) × Unit) (wx1 : List Int) : callF (E18 a15 a28c29) lv18 N en18 c18 (resOf Tryd.f18) 13 [.dv (.pair (.int .i64) (.pair (.sl (.sl (.int .i64))) (.unit))) cx0, .dv (.sl (.int .i64)) wx1] [] dec18 = m18 a15 a28c29 N cx0 wx1 := by kernel_rfl
theorem ok18 (a15 : Y15) (a28c29 : Y28c29) (h15 : FnOk Tryd.prog 15 (F15 a15)) (h28c29 : FnOk Tryd.prog 28 (F28c29 a28c29)) (a : Y18) (h : ∀ cx0 wx1 r, a cx0 wx1 = some r → (∃ N, m18 a15 a28c29 N cx0 wx1 = some r)) : FnOk Tryd.prog 18 (F18 a) := by
 intro args Of x hx
 simp only [F18] at hx
 split at hx
 ·rename_i cx0 wx1
  obtain ⟨N, hN⟩ := h _ _ _ hx
  refine lifted (L := [(15, F15 a15), (28, F28c29 a28c29)]) (rc := nrc) (fz := nfz) (fn := Tryd.f18) (by kernel_rfl) (by kernel_rfl) (by kernel_rfl) (by kernel_rfl) rfl ?_ ((k18 a15 a28c29 N _ _).trans hN) ?_
  ·intro p hp; simp only [List.mem_cons, List.not_mem_nil, or_false] at hp; rcases hp with rfl | rfl
   ·exact h15
   ·exact h28c29
  ·intro l o hd
   simp only [dec18] at hd
   split at hd
   ·obtain rfl := Option.some.inj hd; exact ⟨rfl, rfl⟩
   ·cases hd
 ·cases hx
def E8 (a14 : Y14) (a15 : Y15) (a16c17 : Y16c17) (a18 : Y18) : Env := mkE TI TY [(14, F14 a14), (15, F15 a15), (16, F16c17 a16c17), (18, F18 a18)] nrc nfz
noncomputable def c8 : Code := bodyOf Tryd.f8
def nm8_0 : Norm := ⟨[1, 33, 34, 35], [1], [], []⟩
def lv8 : Nat → Option Norm := norms [(10, nm8_0)]
def en8 : End := ⟨[], ⟨[46], [], [], []⟩⟩
def dec8 (l : List TV) (o : List (Nat × TO)) : Option (Int) := match l, o with | [.dv (.int .i64) x0], [] => some (x0) | _, _ => none
def Sl8a (r4 : Bool × List Cd) (t35_a : Int) : TS := ⟨slots 46 [(1, .ptr 1 0 []), (33, .dv (.sl (.sl (.int .i64))) (((r4.2.getD 0 ((0 : Int), (([] : List (List Int)), ()))).2).1)), (34, .dv (.int .i64) ((((r4.2.getD 0 ((0 : Int), (([] : List (List Int)), ()))).2).1).length : Int)), (35, .dv (.int .i64) t35_a)], [(1, .row (.pair (.int .i64) (.pair (.sl (.sl (.int .i64))) (.unit))) r4.2)]⟩
noncomputable def K8_0 (a14 : Y14) (a15 : Y15) (a16c17 : Y16c17) (a18 : Y18) (N : Nat) : Kont (Int) := kont (E8 a14 a15 a16c17 a18) lv8 N c8 [1, 1, 0, 1, 0] (fin TI en8 (resOf Tryd.f8) dec8)
noncomputable def R8_0 (a14 : Y14) (a15 : Y15) (a16c17 : Y16c17) (a18 : Y18) (N : Nat) (m : Nat) : TS → Option (Int) := loopK (den (E8 a14 a15 a16c17 a18) lv8 N (sub c8 [1, 1, 0, 1, 0, 0])) (TS.norm nm8_0) (K8_0 a14 a15 a16c17 a18 N) m
def l8a (a14 : Y14) (a15 : Y15) (a16c17 : Y16c17) (a18 : Y18) (N : Nat) (r4 : Bool × List Cd) : Nat → Int → Option (Int)
 | 0, _ => none
 | n + 1, t35_a => cond (decide (t35_a < ((((r4.2.getD 0 ((0 : Int), (([] : List (List Int)), ()))).2).1).length : Int))) (chk (decide (0 ≤ t35_a ∧ t35_a < ((((r4.2.getD 0 ((0 : Int), (([] : List (List Int)), ()))).2).1).length : Int))) ((a18 (r4.2.getD 0 ((0 : Int), (([] : List (List Int)), ()))) ((((r4.2.getD 0 ((0 : Int), (([] : List (List Int)), ()))).2).1).getD t35_a.toNat ([] : List Int))).bind fun r5 =>
   cond (r5 != (0 : Int)) (some r5)
   ((l8a a14 a15 a16c17 a18 N r4 n (w64 (t35_a + (1 : Int)))))))
   (some (0 : Int))
theorem wl8a (a14 : Y14) (a15 : Y15) (a16c17 : Y16c17) (a18 : Y18) (N : Nat) (r4 : Bool × List Cd) (m : Nat) (t35_a : Int) : R8_0 a14 a15 a16c17 a18 N (m + 1) (Sl8a r4 t35_a) = cond (decide (t35_a < ((((r4.2.getD 0 ((0 : Int), (([] : List (List Int)), ()))).2).1).length : Int))) (chk (decide (0 ≤ t35_a ∧ t35_a < ((((r4.2.getD 0 ((0 : Int), (([] : List (List Int)), ()))).2).1).length : Int))) ((a18 (r4.2.getD 0 ((0 : Int), (([] : List (List Int)), ()))) ((((r4.2.getD 0 ((0 : Int), (([] : List (List Int)), ()))).2).1).getD t35_a.toNat ([] : List Int))).bind fun r5 =>
   cond (r5 != (0 : Int)) (some r5)
   ((R8_0 a14 a15 a16c17 a18 N m (Sl8a r4 (w64 (t35_a + (1 : Int))))))))
   (some (0 : Int)) := by kernel_rfl
theorem ql8a (a14 : Y14) (a15 : Y15) (a16c17 : Y16c17) (a18 : Y18) (N : Nat) (r4 : Bool × List Cd) : ∀ (m : Nat) (t35_a : Int), R8_0 a14 a15 a16c17 a18 N m (Sl8a r4 t35_a) = l8a a14 a15 a16c17 a18 N r4 m t35_a
        | 0, _ => rfl
        | m + 1, t35_a => by rw [wl8a]; simp only [l8a, ql8a a14 a15 a16c17 a18 N r4 m]
def m8 (a14 : Y14) (a15 : Y15) (a16c17 : Y16c17) (a18 : Y18) (N : Nat) (cx0 : Int × List (List Int) × Unit) : Option (Int) :=
   (a14 (2 : Int) cx0.1 (4 : Int)).bind fun r1 =>
   cond (!r1) (some (4 : Int))
   (cond ((cx0.2.1.length : Int) == (0 : Int)) (some (1 : Int))
   (cond (decide ((cx0.2.1.length : Int) > (10 : Int))) (some (2 : Int))
   ((a15 cx0).bind fun r2 =>
   (a14 (1 : Int) r2 (8 : Int)).bind fun r3 =>
   cond (!r3) (some (3 : Int))
   ((a16c17 cx0.2.1 ([cx0] : List Cd)).bind fun r4 =>
   cond (r4.1) (some (3 : Int))
   ((l8a a14 a15 a16c17 a18 N r4 N (0 : Int)))))))
theorem wm8 (a14 : Y14) (a15 : Y15) (a16c17 : Y16c17) (a18 : Y18) (N : Nat) (cx0 : Int × List (List Int) × Unit) : callF (E8 a14 a15 a16c17 a18) lv8 N en8 c8 (resOf Tryd.f8) 45 [.dv (.pair (.int .i64) (.pair (.sl (.sl (.int .i64))) (.unit))) cx0] [] dec8 = (a14 (2 : Int) cx0.1 (4 : Int)).bind fun r1 =>
   cond (!r1) (some (4 : Int))
   (cond ((cx0.2.1.length : Int) == (0 : Int)) (some (1 : Int))
   (cond (decide ((cx0.2.1.length : Int) > (10 : Int))) (some (2 : Int))
   ((a15 cx0).bind fun r2 =>
   (a14 (1 : Int) r2 (8 : Int)).bind fun r3 =>
   cond (!r3) (some (3 : Int))
   ((a16c17 cx0.2.1 ([cx0] : List Cd)).bind fun r4 =>
   cond (r4.1) (some (3 : Int))
   ((R8_0 a14 a15 a16c17 a18 N N (Sl8a r4 (0 : Int)))))))) := by kernel_rfl
theorem k8 (a14 : Y14) (a15 : Y15) (a16c17 : Y16c17) (a18 : Y18) (N : Nat) (cx0 : Int × List (List Int) × Unit) : callF (E8 a14 a15 a16c17 a18) lv8 N en8 c8 (resOf Tryd.f8) 45 [.dv (.pair (.int .i64) (.pair (.sl (.sl (.int .i64))) (.unit))) cx0] [] dec8 = m8 a14 a15 a16c17 a18 N cx0 := by rw [wm8]; simp only [m8, ql8a]
theorem ok8 (a14 : Y14) (a15 : Y15) (a16c17 : Y16c17) (a18 : Y18) (h14 : FnOk Tryd.prog 14 (F14 a14)) (h15 : FnOk Tryd.prog 15 (F15 a15)) (h16c17 : FnOk Tryd.prog 16 (F16c17 a16c17)) (h18 : FnOk Tryd.prog 18 (F18 a18)) (a : Y8) (h : ∀ cx0 r, a cx0 = some r → (∃ N, m8 a14 a15 a16c17 a18 N cx0 = some r)) : FnOk Tryd.prog 8 (F8 a) := by
 intro args Of x hx
 simp only [F8] at hx
 split at hx
 ·rename_i cx0
  obtain ⟨N, hN⟩ := h _ _ hx
  refine lifted (L := [(14, F14 a14), (15, F15 a15), (16, F16c17 a16c17), (18, F18 a18)]) (rc := nrc) (fz := nfz) (fn := Tryd.f8) (by kernel_rfl) (by kernel_rfl) (by kernel_rfl) (by kernel_rfl) rfl ?_ ((k8 a14 a15 a16c17 a18 N _).trans hN) ?_
  ·intro p hp; simp only [List.mem_cons, List.not_mem_nil, or_false] at hp; rcases hp with rfl | rfl | rfl | rfl
   ·exact h14
   ·exact h15
   ·exact h16c17
   ·exact h18
  ·intro l o hd
   simp only [dec8] at hd
   split at hd
   ·obtain rfl := Option.some.inj hd; exact ⟨rfl, rfl⟩
   ·cases hd
 ·cases hx
def E9 (a14 : Y14) : Env := mkE TI TY [(14, F14 a14)] nrc nfz
noncomputable def c9 : Code := bodyOf Tryd.f9
def nm9_0 : Norm := ⟨[2, 5, 11, 12, 13], [2], [], []⟩
def lv9 : Nat → Option Norm := norms [(5, nm9_0)]
def en9 : End := ⟨[], ⟨[31], [], [], []⟩⟩
def dec9 (l : List TV) (o : List (Nat × TO)) : Option (Int) := match l, o with | [.dv (.int .i64) x0], [] => some (x0) | _, _ => none
def Sl9a (cx0 : Int × List (List Int) × Unit) (lx1 : List Int) (last5_a : Int) (t13_a : Int) : TS := ⟨slots 31 [(2, .ptr 2 0 []), (5, .dv (.int .i64) last5_a), (11, .dv (.sl (.int .i64)) lx1), (12, .dv (.int .i64) (lx1.length : Int)), (13, .dv (.int .i64) t13_a)], [(2, .row (.pair (.int .i64) (.pair (.sl (.sl (.int .i64))) (.unit))) ([cx0] : List Cd))]⟩
noncomputable def K9_0 (a14 : Y14) (N : Nat) : Kont (Int) := kont (E9 a14) lv9 N c9 [1, 1, 1, 0, 1, 0] (fin TI en9 (resOf Tryd.f9) dec9)
noncomputable def R9_0 (a14 : Y14) (N : Nat) (m : Nat) : TS → Option (Int) := loopK (den (E9 a14) lv9 N (sub c9 [1, 1, 1, 0, 1, 0, 0])) (TS.norm nm9_0) (K9_0 a14 N) m
def l9a (a14 : Y14) (N : Nat) (cx0 : Int × List (List Int) × Unit) (lx1 : List Int) : Nat → Int → Int → Option (Int)
 | 0, _, _ => none
 | n + 1, last5_a, t13_a => cond (decide (t13_a < (lx1.length : Int))) (chk (decide (0 ≤ t13_a ∧ t13_a < (lx1.length : Int))) ((a14 (0 : Int) (lx1.getD t13_a.toNat (0 : Int)) (w64 ((cx0.2.1.length : Int) - (1 : Int)))).bind fun r1 =>
   cond (!r1) (some (5 : Int))
   (cond (decide ((lx1.getD t13_a.toNat (0 : Int)) ≤ last5_a)) (some (7 : Int))
   ((l9a a14 N cx0 lx1 n (lx1.getD t13_a.toNat (0 : Int)) (w64 (t13_a + (1 : Int))))))))
   (some (0 : Int))
theorem wl9a (a14 : Y14) (N : Nat) (cx0 : Int × List (List Int) × Unit) (lx1 : List Int) (m : Nat) (last5_a : Int) (t13_a : Int) : R9_0 a14 N (m + 1) (Sl9a cx0 lx1 last5_a t13_a) = cond (decide (t13_a < (lx1.length : Int))) (chk (decide (0 ≤ t13_a ∧ t13_a < (lx1.length : Int))) ((a14 (0 : Int) (lx1.getD t13_a.toNat (0 : Int)) (w64 ((cx0.2.1.length : Int) - (1 : Int)))).bind fun r1 =>
   cond (!r1) (some (5 : Int))
   (cond (decide ((lx1.getD t13_a.toNat (0 : Int)) ≤ last5_a)) (some (7 : Int))
   ((R9_0 a14 N m (Sl9a cx0 lx1 (lx1.getD t13_a.toNat (0 : Int)) (w64 (t13_a + (1 : Int)))))))))
   (some (0 : Int)) := by kernel_rfl
theorem ql9a (a14 : Y14) (N : Nat) (cx0 : Int × List (List Int) × Unit) (lx1 : List Int) : ∀ (m : Nat) (last5_a : Int) (t13_a : Int), R9_0 a14 N m (Sl9a cx0 lx1 last5_a t13_a) = l9a a14 N cx0 lx1 m last5_a t13_a
        | 0, _, _ => rfl
        | m + 1, last5_a, t13_a => by rw [wl9a]; simp only [l9a, ql9a a14 N cx0 lx1 m]
def m9 (a14 : Y14) (N : Nat) (cx0 : Int × List (List Int) × Unit) (lx1 : List Int) : Option (Int) :=
   cond ((lx1.length : Int) == (0 : Int)) (some (1 : Int))
   ((l9a a14 N cx0 lx1 N (-1 : Int) (0 : Int)))
theorem wm9 (a14 : Y14) (N : Nat) (cx0 : Int × List (List Int) × Unit) (lx1 : List Int) : callF (E9 a14) lv9 N en9 c9 (resOf Tryd.f9) 29 [.dv (.pair (.int .i64) (.pair (.sl (.sl (.int .i64))) (.unit))) cx0, .dv (.sl (.int .i64)) lx1] [] dec9 = cond ((lx1.length : Int) == (0 : Int)) (some (1 : Int))
   ((R9_0 a14 N N (Sl9a cx0 lx1 (-1 : Int) (0 : Int)))) := by kernel_rfl
theorem k9 (a14 : Y14) (N : Nat) (cx0 : Int × List (List Int) × Unit) (lx1 : List Int) : callF (E9 a14) lv9 N en9 c9 (resOf Tryd.f9) 29 [.dv (.pair (.int .i64) (.pair (.sl (.sl (.int .i64))) (.unit))) cx0, .dv (.sl (.int .i64)) lx1] [] dec9 = m9 a14 N cx0 lx1 := by rw [wm9]; simp only [m9, ql9a]
theorem ok9 (a14 : Y14) (h14 : FnOk Tryd.prog 14 (F14 a14)) (a : Y9) (h : ∀ cx0 lx1 r, a cx0 lx1 = some r → (∃ N, m9 a14 N cx0 lx1 = some r)) : FnOk Tryd.prog 9 (F9 a) := by
 intro args Of x hx
 simp only [F9] at hx
 split at hx
 ·rename_i cx0 lx1
  obtain ⟨N, hN⟩ := h _ _ _ hx
  refine lifted (L := [(14, F14 a14)]) (rc := nrc) (fz := nfz) (fn := Tryd.f9) (by kernel_rfl) (by kernel_rfl) (by kernel_rfl) (by kernel_rfl) rfl ?_ ((k9 a14 N _ _).trans hN) ?_
  ·intro p hp; simp only [List.mem_cons, List.not_mem_nil, or_false] at hp; rcases hp with rfl; exact h14
  ·intro l o hd
   simp only [dec9] at hd
   split at hd
   ·obtain rfl := Option.some.inj hd; exact ⟨rfl, rfl⟩
   ·cases hd
 ·cases hx
def E4 (a10 : Y10) (a8 : Y8) (a9 : Y9) : Env := mkE TI TY [(10, F10 a10), (8, F8 a8), (9, F9 a9)] nrc nfz
noncomputable def c4 : Code := bodyOf Tryd.f4
def nm4_0 : Norm := ⟨[7, 22, 23], [], [], []⟩
def lv4 : Nat → Option Norm := norms [(8, nm4_0)]
def en4 : End := ⟨[], ⟨[35, 36], [], [], []⟩⟩
def dec4 (l : List TV) (o : List (Nat × TO)) : Option (Int × Int) := match l, o with | [.dv (.int .i64) x0, .dv (.int .i64) x1], [] => some (x0, x1) | _, _ => none
def Sl4a (n7_a : Int) (t22_a : List Int) (t23_a : Int) : TS := ⟨slots 35 [(7, .dv (.int .i64) n7_a), (22, .dv (.arr 8 (.int .u8)) t22_a), (23, .dv (.int .i64) t23_a)], []⟩
noncomputable def K4_0 (a10 : Y10) (a8 : Y8) (a9 : Y9) (N : Nat) : Kont (Int × Int) := kont (E4 a10 a8 a9) lv4 N c4 [1, 1, 1, 1, 1, 0, 1, 0] (fin TI en4 (resOf Tryd.f4) dec4)
noncomputable def R4_0 (a10 : Y10) (a8 : Y8) (a9 : Y9) (N : Nat) (m : Nat) : TS → Option (Int × Int) := loopK (den (E4 a10 a8 a9) lv4 N (sub c4 [1, 1, 1, 1, 1, 0, 1, 0, 0])) (TS.norm nm4_0) (K4_0 a10 a8 a9 N) m
def l4a (a10 : Y10) (a8 : Y8) (a9 : Y9) (N : Nat) : Nat → Int → (List Int) → Int → Option (Int × Int)
 | 0, _, _, _ => none
 | n + 1, n7_a, t22_a, t23_a => cond (decide (t23_a < (8 : Int))) (chk (decide (0 ≤ t23_a ∧ t23_a < (8 : Int))) (chk (decide (0 ≤ t22_a.getD t23_a.toNat (0 : Int) ∧ t22_a.getD t23_a.toNat (0 : Int) < (16 : Int))) ((l4a a10 a8 a9 N n (w64 (n7_a * (imax (1 : Int) (([(0 : Int), (1 : Int), (1 : Int), (2 : Int), (1 : Int), (2 : Int), (2 : Int), (3 : Int), (1 : Int), (2 : Int), (2 : Int), (3 : Int), (2 : Int), (3 : Int), (3 : Int), (4 : Int)] : List Int).getD ((t22_a.getD t23_a.toNat (0 : Int)).toNat) (0 : Int))))) t22_a (w64 (t23_a + (1 : Int)))))))
   (some (n7_a, (0 : Int)))
theorem wl4a (a10 : Y10) (a8 : Y8) (a9 : Y9) (N : Nat) (m : Nat) (n7_a : Int) (t22_a : List Int) (t23_a : Int) : R4_0 a10 a8 a9 N (m + 1) (Sl4a n7_a t22_a t23_a) = cond (decide (t23_a < (8 : Int))) (chk (decide (0 ≤ t23_a ∧ t23_a < (8 : Int))) (chk (decide (0 ≤ t22_a.getD t23_a.toNat (0 : Int) ∧ t22_a.getD t23_a.toNat (0 : Int) < (16 : Int))) ((R4_0 a10 a8 a9 N m (Sl4a (w64 (n7_a * (imax (1 : Int) (([(0 : Int), (1 : Int), (1 : Int), (2 : Int), (1 : Int), (2 : Int), (2 : Int), (3 : Int), (1 : Int), (2 : Int), (2 : Int), (3 : Int), (2 : Int), (3 : Int), (3 : Int), (4 : Int)] : List Int).getD ((t22_a.getD t23_a.toNat (0 : Int)).toNat) (0 : Int))))) t22_a (w64 (t23_a + (1 : Int))))))))
   (some (n7_a, (0 : Int))) := by kernel_rfl
theorem ql4a (a10 : Y10) (a8 : Y8) (a9 : Y9) (N : Nat) : ∀ (m : Nat) (n7_a : Int) (t22_a : List Int) (t23_a : Int), R4_0 a10 a8 a9 N m (Sl4a n7_a t22_a t23_a) = l4a a10 a8 a9 N m n7_a t22_a t23_a
        | 0, _, _, _ => rfl
        | m + 1, n7_a, t22_a, t23_a => by rw [wl4a]; simp only [l4a, ql4a a10 a8 a9 N m]
def m4 (a10 : Y10) (a8 : Y8) (a9 : Y9) (N : Nat) (cx0 : Int × List (List Int) × Unit) (coalition1 : List Int) : Option (Int × Int) :=
   (a8 cx0).bind fun r1 =>
   cond (r1 == (0 : Int)) ((a9 cx0 coalition1).bind fun r2 =>
   cond (r2 != (0 : Int)) (some ((0 : Int), r2))
   ((a10 cx0 coalition1).bind fun r3 =>
   (l4a a10 a8 a9 N N (1 : Int) r3 (0 : Int))))
   (cond (r1 != (0 : Int)) (some ((0 : Int), r1))
   ((a10 cx0 coalition1).bind fun r4 =>
   (l4a a10 a8 a9 N N (1 : Int) r4 (0 : Int))))
theorem wm4 (a10 : Y10) (a8 : Y8) (a9 : Y9) (N : Nat) (cx0 : Int × List (List Int) × Unit) (coalition1 : List Int) : callF (E4 a10 a8 a9) lv4 N en4 c4 (resOf Tryd.f4) 33 [.dv (.pair (.int .i64) (.pair (.sl (.sl (.int .i64))) (.unit))) cx0, .dv (.sl (.int .i64)) coalition1] [] dec4 = (a8 cx0).bind fun r1 =>
   cond (r1 == (0 : Int)) ((a9 cx0 coalition1).bind fun r2 =>
   cond (r2 != (0 : Int)) (some ((0 : Int), r2))
   ((a10 cx0 coalition1).bind fun r3 =>
   (R4_0 a10 a8 a9 N N (Sl4a (1 : Int) r3 (0 : Int)))))
   (cond (r1 != (0 : Int)) (some ((0 : Int), r1))
   ((a10 cx0 coalition1).bind fun r4 =>
   (R4_0 a10 a8 a9 N N (Sl4a (1 : Int) r4 (0 : Int))))) := by kernel_rfl
theorem k4 (a10 : Y10) (a8 : Y8) (a9 : Y9) (N : Nat) (cx0 : Int × List (List Int) × Unit) (coalition1 : List Int) : callF (E4 a10 a8 a9) lv4 N en4 c4 (resOf Tryd.f4) 33 [.dv (.pair (.int .i64) (.pair (.sl (.sl (.int .i64))) (.unit))) cx0, .dv (.sl (.int .i64)) coalition1] [] dec4 = m4 a10 a8 a9 N cx0 coalition1 := by rw [wm4]; simp only [m4, ql4a]
theorem ok4 (a10 : Y10) (a8 : Y8) (a9 : Y9) (h10 : FnOk Tryd.prog 10 (F10 a10)) (h8 : FnOk Tryd.prog 8 (F8 a8)) (h9 : FnOk Tryd.prog 9 (F9 a9)) (a : Y4) (h : ∀ cx0 coalition1 r, a cx0 coalition1 = some r → (∃ N, m4 a10 a8 a9 N cx0 coalition1 = some r)) : FnOk Tryd.prog 4 (F4 a) := by
 intro args Of x hx
 simp only [F4] at hx
 split at hx
 ·rename_i cx0 coalition1
  obtain ⟨N, hN⟩ := h _ _ _ hx
  refine lifted (L := [(10, F10 a10), (8, F8 a8), (9, F9 a9)]) (rc := nrc) (fz := nfz) (fn := Tryd.f4) (by kernel_rfl) (by kernel_rfl) (by kernel_rfl) (by kernel_rfl) rfl ?_ ((k4 a10 a8 a9 N _ _).trans hN) ?_
  ·intro p hp; simp only [List.mem_cons, List.not_mem_nil, or_false] at hp; rcases hp with rfl | rfl | rfl
   ·exact h10
   ·exact h8
   ·exact h9
  ·intro l o hd
   simp only [dec4] at hd
   split at hd
   ·obtain rfl := Option.some.inj hd; exact ⟨rfl, rfl⟩
   ·cases hd
 ·cases hx
def E11 : Env := mkE TI TY [] nrc nfz
noncomputable def c11 : Code := bodyOf Tryd.f11
def lv11 : Nat → Option Norm := norms []
def en11 : End := ⟨[], ⟨[15], [], [], []⟩⟩
def dec11 (l : List TV) (o : List (Nat × TO)) : Option (Bool) := match l, o with | [.dv (.bool) x0], [] => some (x0) | _, _ => none
def m11 (N : Nat) (lo0 : Int) (n1 : Int) (hi2 : Int) : Option (Bool) :=
   cond (decide (lo0 ≤ n1)) (some (decide (n1 ≤ hi2)))
   (some false)
theorem k11 (N : Nat) (lo0 : Int) (n1 : Int) (hi2 : Int) : callF (E11) lv11 N en11 c11 (resOf Tryd.f11) 12 [.dv (.int .i64) lo0, .dv (.int .i64) n1, .dv (.int .i64) hi2] [] dec11 = m11 N lo0 n1 hi2 := by kernel_rfl
theorem ok11 (a : Y11) (h : ∀ lo0 n1 hi2 r, a lo0 n1 hi2 = some r → (∃ N, m11 N lo0 n1 hi2 = some r)) : FnOk Tryd.prog 11 (F11 a) := by
 intro args Of x hx
 simp only [F11] at hx
 split at hx
 ·rename_i lo0 n1 hi2
  obtain ⟨N, hN⟩ := h _ _ _ _ hx
  refine lifted (L := []) (rc := nrc) (fz := nfz) (fn := Tryd.f11) (by kernel_rfl) (by kernel_rfl) (by kernel_rfl) (by kernel_rfl) rfl ?_ ((k11 N _ _ _).trans hN) ?_
  ·intro p hp; cases hp
  ·intro l o hd
   simp only [dec11] at hd
   split at hd
   ·obtain rfl := Option.some.inj hd; exact ⟨rfl, rfl⟩
   ·cases hd
 ·cases hx
def E6 (a11 : Y11) (a12 : Y12) : Env := mkE TI TY [(11, F11 a11), (12, F12 a12)] nrc nfz
noncomputable def c6 : Code := bodyOf Tryd.f6
def lv6 : Nat → Option Norm := norms []
def en6 : End := ⟨[(10, .sl (.int .i64))], ⟨[10, 11], [], [], []⟩⟩
def dec6 (l : List TV) (o : List (Nat × TO)) : Option (List Int × Int) := match l, o with | [.dv (.sl (.int .i64)) x0, .dv (.int .i64) x1], [] => some (x0, x1) | _, _ => none
def m6 (a11 : Y11) (a12 : Y12) (N : Nat) (n0 : Int) : Option (List Int × Int) :=
   (a11 (1 : Int) n0 (46 : Int)).bind fun r1 =>
   cond (!r1) (some (([] : List Int), (3 : Int)))
   ((a12 (n0, (([] : List Int), (false, ())))).bind fun r2 =>
   some (r2, (0 : Int)))
theorem k6 (a11 : Y11) (a12 : Y12) (N : Nat) (n0 : Int) : callF (E6 a11 a12) lv6 N en6 c6 (resOf Tryd.f6) 9 [.dv (.int .i64) n0] [] dec6 = m6 a11 a12 N n0 := by kernel_rfl
theorem ok6 (a11 : Y11) (a12 : Y12) (h11 : FnOk Tryd.prog 11 (F11 a11)) (h12 : FnOk Tryd.prog 12 (F12 a12)) (a : Y6) (h : ∀ n0 r, a n0 = some r → (∃ N, m6 a11 a12 N n0 = some r)) : FnOk Tryd.prog 6 (F6 a) := by
 intro args Of x hx
 simp only [F6] at hx
 split at hx
 ·rename_i n0
  obtain ⟨N, hN⟩ := h _ _ hx
  refine lifted (L := [(11, F11 a11), (12, F12 a12)]) (rc := nrc) (fz := nfz) (fn := Tryd.f6) (by kernel_rfl) (by kernel_rfl) (by kernel_rfl) (by kernel_rfl) rfl ?_ ((k6 a11 a12 N _).trans hN) ?_
  ·intro p hp; simp only [List.mem_cons, List.not_mem_nil, or_false] at hp; rcases hp with rfl | rfl
   ·exact h11
   ·exact h12
  ·intro l o hd
   simp only [dec6] at hd
   split at hd
   ·obtain rfl := Option.some.inj hd; exact ⟨rfl, rfl⟩
   ·cases hd
 ·cases hx
def E5 (a6 : Y6) : Env := mkE TI TY [(6, F6 a6)] nrc nfz
noncomputable def c5 : Code := bodyOf Tryd.f5
def lv5 : Nat → Option Norm := norms []
def en5 : End := ⟨[], ⟨[17, 18], [], [], []⟩⟩
def dec5 (l : List TV) (o : List (Nat × TO)) : Option (Int × Int) := match l, o with | [.dv (.int .i64) x0, .dv (.int .i64) x1], [] => some (x0, x1) | _, _ => none
def m5 (a6 : Y6) (N : Nat) (n0 : Int) : Option (Int × Int) :=
   (a6 n0).bind fun r1 =>
   cond (r1.2 != (0 : Int)) (some ((0 : Int), r1.2))
   (some (w64 ((r1.1.length : Int) - (1 : Int)), (0 : Int)))
theorem k5 (a6 : Y6) (N : Nat) (n0 : Int) : callF (E5 a6) lv5 N en5 c5 (resOf Tryd.f5) 16 [.dv (.int .i64) n0] [] dec5 = m5 a6 N n0 := by kernel_rfl
theorem ok5 (a6 : Y6) (h6 : FnOk Tryd.prog 6 (F6 a6)) (a : Y5) (h : ∀ n0 r, a n0 = some r → (∃ N, m5 a6 N n0 = some r)) : FnOk Tryd.prog 5 (F5 a) := by
 intro args Of x hx
 simp only [F5] at hx
 split at hx
 ·rename_i n0
  obtain ⟨N, hN⟩ := h _ _ hx
  refine lifted (L := [(6, F6 a6)]) (rc := nrc) (fz := nfz) (fn := Tryd.f5) (by kernel_rfl) (by kernel_rfl) (by kernel_rfl) (by kernel_rfl) rfl ?_ ((k5 a6 N _).trans hN) ?_
  ·intro p hp; simp only [List.mem_cons, List.not_mem_nil, or_false] at hp; rcases hp with rfl; exact h6
  ·intro l o hd
   simp only [dec5] at hd
   split at hd
   ·obtain rfl := Option.some.inj hd; exact ⟨rfl, rfl⟩
   ·cases hd
 ·cases hx
def E3 (a4 : Y4) (a5 : Y5) (a6 : Y6) (a7 : Y7) : Env := mkE TI TY [(4, F4 a4), (5, F5 a5), (6, F6 a6), (7, F7 a7)] (fun i => ([(3, [some (.int .i64), none]), (21, [some (.int .i64), none])] : List (Nat × List (Option DT))).lookup i) nfz
noncomputable def c3 : Code := bodyOf Tryd.f3
def nm3_0 : Norm := ⟨[3, 22, 23], [3], [(.fld 3 1, 2100, .sl (.int .i64))], []⟩
def nm3_1 : Norm := ⟨[3, 22, 23, 26, 27], [3, 2100], [(.slot 6, 1006, .int .i64)], []⟩
def nm3_2 : Norm := ⟨[3, 9, 48, 49], [3, 2100], [], []⟩
def nm3_3 : Norm := ⟨[127, 128, 129], [], [], []⟩
def lv3 : Nat → Option Norm := norms [(3, nm3_0), (7, nm3_1), (15, nm3_2), (29, nm3_3)]
def en3 : End := ⟨[], ⟨[140], [], [], []⟩⟩
def dec3 (l : List TV) (o : List (Nat × TO)) : Option (Bool) := match l, o with | [.dv (.bool) x0], [] => some (x0) | _, _ => none
def Sl3b (words0 : List (List Int)) (t23_a : Int) (o2100_a : List (List Int)) (t27_b : Int) (l6_b : List Int) : TS := ⟨slots 140 [(3, .ptr 3 0 []), (6, .row 1006), (22, .dv (.arr 3 (.arr 5 (.int .u8))) words0), (23, .dv (.int .i64) t23_a), (26, .dv (.arr 5 (.int .u8)) (words0.getD t23_a.toNat ([(0 : Int), (0 : Int), (0 : Int), (0 : Int), (0 : Int)] : List Int))), (27, .dv (.int .i64) t27_b)], [(1006, .row (.int .i64) l6_b), (3, .rcd [.dv (.int .i64) (4 : Int), .row 2100]), (2100, .row (.sl (.int .i64)) o2100_a)]⟩
def Sl3d (r4 : List Int × Int) (t129_d : Int) : TS := ⟨slots 140 [(127, .dv (.sl (.int .i64)) r4.1), (128, .dv (.int .i64) (r4.1.length : Int)), (129, .dv (.int .i64) t129_d)], []⟩
def Sl3c (o2100_a : List (List Int)) (apart9_c : Int) (t49_c : Int) : TS := ⟨slots 140 [(3, .ptr 3 0 []), (9, .dv (.int .i64) apart9_c), (48, .dv (.int .i64) ((o2100_a.getD 0 ([] : List Int)).length : Int)), (49, .dv (.int .i64) t49_c)], [(3, .rcd [.dv (.int .i64) (4 : Int), .row 2100]), (2100, .row (.sl (.int .i64)) o2100_a)]⟩
def Sl3a (words0 : List (List Int)) (t23_a : Int) (o2100_a : List (List Int)) : TS := ⟨slots 140 [(3, .ptr 3 0 []), (22, .dv (.arr 3 (.arr 5 (.int .u8))) words0), (23, .dv (.int .i64) t23_a)], [(2100, .row (.sl (.int .i64)) o2100_a), (3, .rcd [.dv (.int .i64) (4 : Int), .row 2100])]⟩
noncomputable def K3_0 (a4 : Y4) (a5 : Y5) (a6 : Y6) (a7 : Y7) (N : Nat) : Kont (Bool) := kont (E3 a4 a5 a6 a7) lv3 N c3 [1, 1, 0, 1, 0] (fin TI en3 (resOf Tryd.f3) dec3)
noncomputable def R3_0 (a4 : Y4) (a5 : Y5) (a6 : Y6) (a7 : Y7) (N : Nat) (m : Nat) : TS → Option (Bool) := loopK (den (E3 a4 a5 a6 a7) lv3 N (sub c3 [1, 1, 0, 1, 0, 0])) (TS.norm nm3_0) (K3_0 a4 a5 a6 a7 N) m
noncomputable def K3_1 (a4 : Y4) (a5 : Y5) (a6 : Y6) (a7 : Y7) (N : Nat) (T3_0 : TS → Option (Bool)) : Kont (Bool) := kont (E3 a4 a5 a6 a7) lv3 N (sub c3 [1, 1, 0, 1, 0, 0]) [1, 1, 0, 0, 1, 1, 0, 1, 0] (kloop (TS.norm nm3_0) (K3_0 a4 a5 a6 a7 N) T3_0)
noncomputable def R3_1 (a4 : Y4) (a5 : Y5) (a6 : Y6) (a7 : Y7) (N : Nat) (T3_0 : TS → Option (Bool)) (m : Nat) : TS → Option (Bool) := loopK (den (E3 a4 a5 a6 a7) lv3 N (sub c3 [1, 1, 0, 1, 0, 0, 1, 1, 0, 0, 1, 1, 0, 1, 0, 0])) (TS.norm nm3_1) (K3_1 a4 a5 a6 a7 N T3_0) m
noncomputable def K3_2 (a4 : Y4) (a5 : Y5) (a6 : Y6) (a7 : Y7) (N : Nat) : Kont (Bool) := kont (E3 a4 a5 a6 a7) lv3 N c3 [1, 1, 1, 1, 0, 1, 0] (fin TI en3 (resOf Tryd.f3) dec3)
noncomputable def R3_2 (a4 : Y4) (a5 : Y5) (a6 : Y6) (a7 : Y7) (N : Nat) (m : Nat) : TS → Option (Bool) := loopK (den (E3 a4 a5 a6 a7) lv3 N (sub c3 [1, 1, 1, 1, 0, 1, 0, 0])) (TS.norm nm3_2) (K3_2 a4 a5 a6 a7 N) m
noncomputable def K3_3 (a4 : Y4) (a5 : Y5) (a6 : Y6) (a7 : Y7) (N : Nat) : Kont (Bool) := kont (E3 a4 a5 a6 a7) lv3 N c3 [1, 1, 1, 1, 1, 1, 1, 1, 1, 1, 1, 0, 1, 0] (fin TI en3 (resOf Tryd.f3) dec3)
noncomputable def R3_3 (a4 : Y4) (a5 : Y5) (a6 : Y6) (a7 : Y7) (N : Nat) (m : Nat) : TS → Option (Bool) := loopK (den (E3 a4 a5 a6 a7) lv3 N (sub c3 [1, 1, 1, 1, 1, 1, 1, 1, 1, 1, 1, 0, 1, 0, 0])) (TS.norm nm3_3) (K3_3 a4 a5 a6 a7 N) m
def l3b (a4 : Y4) (a5 : Y5) (a6 : Y6) (a7 : Y7) (N : Nat) (words0 : List (List Int)) (t23_a : Int) (o2100_a : List (List Int)) (rec_l3a : Int → (List (List Int)) → Option (Bool)) : Nat → Int → (List Int) → Option (Bool)
 | 0, _, _ => none
 | n + 1, t27_b, l6_b => cond (decide (t27_b < (5 : Int))) (chk (decide (0 ≤ t27_b ∧ t27_b < (5 : Int))) (chk (small (l6_b.length + 1) 8) ((l3b a4 a5 a6 a7 N words0 t23_a o2100_a rec_l3a n (w64 (t27_b + (1 : Int))) (l6_b ++ ([Int.tmod (w64 ((words0.getD t23_a.toNat ([(0 : Int), (0 : Int), (0 : Int), (0 : Int), (0 : Int)] : List Int)).getD t27_b.toNat (0 : Int))) (4 : Int)] : List Int))))))
   (chk (small (o2100_a.length + 1) 24) ((rec_l3a (w64 (t23_a + (1 : Int))) (o2100_a ++ ([l6_b] : List (List Int))))))
theorem wl3b (a4 : Y4) (a5 : Y5) (a6 : Y6) (a7 : Y7) (N : Nat) (words0 : List (List Int)) (t23_a : Int) (o2100_a : List (List Int)) (T3_0 : TS → Option (Bool)) (m : Nat) (t27_b : Int) (l6_b : List Int) : R3_1 a4 a5 a6 a7 N T3_0 (m + 1) (Sl3b words0 t23_a o2100_a t27_b l6_b) = cond (decide (t27_b < (5 : Int))) (chk (decide (0 ≤ t27_b ∧ t27_b < (5 : Int))) (chk (small (l6_b.length + 1) 8) ((R3_1 a4 a5 a6 a7 N T3_0 m (Sl3b words0 t23_a o2100_a (w64 (t27_b + (1 : Int))) (l6_b ++ ([Int.tmod (w64 ((words0.getD t23_a.toNat ([(0 : Int), (0 : Int), (0 : Int), (0 : Int), (0 : Int)] : List Int)).getD t27_b.toNat (0 : Int))) (4 : Int)] : List Int)))))))
   (chk (small (o2100_a.length + 1) 24) ((T3_0 (Sl3a words0 (w64 (t23_a + (1 : Int))) (o2100_a ++ ([l6_b] : List (List Int))))))) := by kernel_rfl
theorem ql3b (a4 : Y4) (a5 : Y5) (a6 : Y6) (a7 : Y7) (N : Nat) (words0 : List (List Int)) (t23_a : Int) (o2100_a : List (List Int)) (T3_0 : TS → Option (Bool)) : ∀ (m : Nat) (t27_b : Int) (l6_b : List Int), R3_1 a4 a5 a6 a7 N T3_0 m (Sl3b words0 t23_a o2100_a t27_b l6_b) = l3b a4 a5 a6 a7 N words0 t23_a o2100_a (fun y0 y1 => T3_0 (Sl3a words0 y0 y1)) m t27_b l6_b
        | 0, _, _ => rfl
        | m + 1, t27_b, l6_b => by rw [wl3b]; simp only [l3b, ql3b a4 a5 a6 a7 N words0 t23_a o2100_a T3_0 m]
def l3d (a4 : Y4) (a5 : Y5) (a6 : Y6) (a7 : Y7) (N : Nat) (r4 : List Int × Int) : Nat → Int → Option (Bool)
 | 0, _ => none
 | n + 1, t129_d => cond (decide (t129_d < (r4.1.length : Int))) (chk (decide (0 ≤ t129_d ∧ t129_d < (r4.1.length : Int))) (chk (decide (0 ≤ t129_d)) (cond ((r4.1.getD t129_d.toNat (0 : Int)) != (IntKind.wrap .i64 ((1 : Int) * 2 ^ min (Int.toNat t129_d) 64))) (some false)
   ((l3d a4 a5 a6 a7 N r4 n (w64 (t129_d + (1 : Int))))))))
   ((a7).bind fun r5 =>
   some r5)
theorem wl3d (a4 : Y4) (a5 : Y5) (a6 : Y6) (a7 : Y7) (N : Nat) (r4 : List Int × Int) (m : Nat) (t129_d : Int) : R3_3 a4 a5 a6 a7 N (m + 1) (Sl3d r4 t129_d) = cond (decide (t129_d < (r4.1.length : Int))) (chk (decide (0 ≤ t129_d ∧ t129_d < (r4.1.length : Int))) (chk (decide (0 ≤ t129_d)) (cond ((r4.1.getD t129_d.toNat (0 : Int)) != (IntKind.wrap .i64 ((1 : Int) * 2 ^ min (Int.toNat t129_d) 64))) (some false)
   ((R3_3 a4 a5 a6 a7 N m (Sl3d r4 (w64 (t129_d + (1 : Int)))))))))
   ((a7).bind fun r5 =>
   some r5) := by kernel_rfl
theorem ql3d (a4 : Y4) (a5 : Y5) (a6 : Y6) (a7 : Y7) (N : Nat) (r4 : List Int × Int) : ∀ (m : Nat) (t129_d : Int), R3_3 a4 a5 a6 a7 N m (Sl3d r4 t129_d) = l3d a4 a5 a6 a7 N r4 m t129_d
        | 0, _ => rfl
        | m + 1, t129_d => by rw [wl3d]; simp only [l3d, ql3d a4 a5 a6 a7 N r4 m]
def l3c (a4 : Y4) (a5 : Y5) (a6 : Y6) (a7 : Y7) (N : Nat) (o2100_a : List (List Int)) : Nat → Int → Int → Option (Bool)
 | 0, _, _ => none
 | n + 1, apart9_c, t49_c => cond (decide (t49_c < ((o2100_a.getD 0 ([] : List Int)).length : Int))) (chk (decide (0 ≤ (0 : Int) ∧ (0 : Int) < (o2100_a.length : Int))) (chk (decide (0 ≤ t49_c ∧ t49_c < ((o2100_a.getD 0 ([] : List Int)).length : Int))) (chk (decide (0 ≤ (1 : Int) ∧ (1 : Int) < (o2100_a.length : Int))) (chk (decide (0 ≤ t49_c ∧ t49_c < ((o2100_a.getD 1 ([] : List Int)).length : Int))) (cond (((o2100_a.getD 0 ([] : List Int)).getD t49_c.toNat (0 : Int)) != ((o2100_a.getD 1 ([] : List Int)).getD t49_c.toNat (0 : Int))) ((l3c a4 a5 a6 a7 N o2100_a n (w64 (apart9_c + (1 : Int))) (w64 (t49_c + (1 : Int)))))
   ((l3c a4 a5 a6 a7 N o2100_a n apart9_c (w64 (t49_c + (1 : Int))))))))))
   ((a4 ((4 : Int), (o2100_a, ())) ([(0 : Int), (1 : Int)] : List Int)).bind fun r1 =>
   (a4 ((4 : Int), (o2100_a, ())) ([(0 : Int), (1 : Int), (2 : Int)] : List Int)).bind fun r2 =>
   cond (r1.2 != (0 : Int)) (some false)
   (cond (r2.2 != (0 : Int)) (some false)
   (chk (decide (0 ≤ apart9_c)) (cond (r1.1 != (IntKind.wrap .i64 ((1 : Int) * 2 ^ min (Int.toNat apart9_c) 64))) (some false)
   (cond (decide (r2.1 < r1.1)) (some false)
   ((a5 r1.1).bind fun r3 =>
   (a6 r1.1).bind fun r4 =>
   cond (r3.2 != (0 : Int)) (some false)
   (cond (r4.2 != (0 : Int)) (some false)
   (cond (r3.1 != apart9_c) (some false)
   (cond ((r4.1.length : Int) != (w64 (apart9_c + (1 : Int)))) (some false)
   ((l3d a4 a5 a6 a7 N r4 N (0 : Int))))))))))))
theorem wl3c (a4 : Y4) (a5 : Y5) (a6 : Y6) (a7 : Y7) (N : Nat) (o2100_a : List (List Int)) (m : Nat) (apart9_c : Int) (t49_c : Int) : R3_2 a4 a5 a6 a7 N (m + 1) (Sl3c o2100_a apart9_c t49_c) = cond (decide (t49_c < ((o2100_a.getD 0 ([] : List Int)).length : Int))) (chk (decide (0 ≤ (0 : Int) ∧ (0 : Int) < (o2100_a.length : Int))) (chk (decide (0 ≤ t49_c ∧ t49_c < ((o2100_a.getD 0 ([] : List Int)).length : Int))) (chk (decide (0 ≤ (1 : Int) ∧ (1 : Int) < (o2100_a.length : Int))) (chk (decide (0 ≤ t49_c ∧ t49_c < ((o2100_a.getD 1 ([] : List Int)).length : Int))) (cond (((o2100_a.getD 0 ([] : List Int)).getD t49_c.toNat (0 : Int)) != ((o2100_a.getD 1 ([] : List Int)).getD t49_c.toNat (0 : Int))) ((R3_2 a4 a5 a6 a7 N m (Sl3c o2100_a (w64 (apart9_c + (1 : Int))) (w64 (t49_c + (1 : Int))))))
   ((R3_2 a4 a5 a6 a7 N m (Sl3c o2100_a apart9_c (w64 (t49_c + (1 : Int)))))))))))
   ((a4 ((4 : Int), (o2100_a, ())) ([(0 : Int), (1 : Int)] : List Int)).bind fun r1 =>
   (a4 ((4 : Int), (o2100_a, ())) ([(0 : Int), (1 : Int), (2 : Int)] : List Int)).bind fun r2 =>
   cond (r1.2 != (0 : Int)) (some false)
   (cond (r2.2 != (0 : Int)) (some false)
   (chk (decide (0 ≤ apart9_c)) (cond (r1.1 != (IntKind.wrap .i64 ((1 : Int) * 2 ^ min (Int.toNat apart9_c) 64))) (some false)
   (cond (decide (r2.1 < r1.1)) (some false)
   ((a5 r1.1).bind fun r3 =>
   (a6 r1.1).bind fun r4 =>
   cond (r3.2 != (0 : Int)) (some false)
   (cond (r4.2 != (0 : Int)) (some false)
   (cond (r3.1 != apart9_c) (some false)
   (cond ((r4.1.length : Int) != (w64 (apart9_c + (1 : Int)))) (some false)
   ((R3_3 a4 a5 a6 a7 N N (Sl3d r4 (0 : Int))))))))))))) := by kernel_rfl
theorem ql3c (a4 : Y4) (a5 : Y5) (a6 : Y6) (a7 : Y7) (N : Nat) (o2100_a : List (List Int)) : ∀ (m : Nat) (apart9_c : Int) (t49_c : Int), R3_2 a4 a5 a6 a7 N m (Sl3c o2100_a apart9_c t49_c) = l3c a4 a5 a6 a7 N o2100_a m apart9_c t49_c
        | 0, _, _ => rfl
        | m + 1, apart9_c, t49_c => by rw [wl3c]; simp only [l3c, ql3d, ql3c a4 a5 a6 a7 N o2100_a m]
def l3a (a4 : Y4) (a5 : Y5) (a6 : Y6) (a7 : Y7) (N : Nat) (words0 : List (List Int)) : Nat → Int → (List (List Int)) → Option (Bool)
 | 0, _, _ => none
 | n + 1, t23_a, o2100_a => cond (decide (t23_a < (3 : Int))) (chk (decide (0 ≤ t23_a ∧ t23_a < (3 : Int))) ((l3b a4 a5 a6 a7 N words0 t23_a o2100_a (fun y0 y1 => (l3a a4 a5 a6 a7 N words0 n y0 y1)) N (0 : Int) ([] : List Int))))
   (chk (decide (0 ≤ (0 : Int) ∧ (0 : Int) < (o2100_a.length : Int))) ((l3c a4 a5 a6 a7 N o2100_a N (0 : Int) (0 : Int))))
theorem wl3a (a4 : Y4) (a5 : Y5) (a6 : Y6) (a7 : Y7) (N : Nat) (words0 : List (List Int)) (m : Nat) (t23_a : Int) (o2100_a : List (List Int)) : R3_0 a4 a5 a6 a7 N (m + 1) (Sl3a words0 t23_a o2100_a) = cond (decide (t23_a < (3 : Int))) (chk (decide (0 ≤ t23_a ∧ t23_a < (3 : Int))) ((R3_1 a4 a5 a6 a7 N (R3_0 a4 a5 a6 a7 N m) N (Sl3b words0 t23_a o2100_a (0 : Int) ([] : List Int)))))
   (chk (decide (0 ≤ (0 : Int) ∧ (0 : Int) < (o2100_a.length : Int))) ((R3_2 a4 a5 a6 a7 N N (Sl3c o2100_a (0 : Int) (0 : Int))))) := by kernel_rfl
theorem ql3a (a4 : Y4) (a5 : Y5) (a6 : Y6) (a7 : Y7) (N : Nat) (words0 : List (List Int)) : ∀ (m : Nat) (t23_a : Int) (o2100_a : List (List Int)), R3_0 a4 a5 a6 a7 N m (Sl3a words0 t23_a o2100_a) = l3a a4 a5 a6 a7 N words0 m t23_a o2100_a
        | 0, _, _ => rfl
        | m + 1, t23_a, o2100_a => by rw [wl3a]; simp only [l3a, ql3b, ql3c, ql3a a4 a5 a6 a7 N words0 m]
def m3 (a4 : Y4) (a5 : Y5) (a6 : Y6) (a7 : Y7) (N : Nat) (words0 : List (List Int)) : Option (Bool) :=
   (l3a a4 a5 a6 a7 N words0 N (0 : Int) ([] : List (List Int)))
theorem wm3 (a4 : Y4) (a5 : Y5) (a6 : Y6) (a7 : Y7) (N : Nat) (words0 : List (List Int)) : callF (E3 a4 a5 a6 a7) lv3 N en3 c3 (resOf Tryd.f3) 139 [.dv (.arr 3 (.arr 5 (.int .u8))) words0] [] dec3 = (R3_0 a4 a5 a6 a7 N N (Sl3a words0 (0 : Int) ([] : List (List Int)))) := by kernel_rfl
theorem k3 (a4 : Y4) (a5 : Y5) (a6 : Y6) (a7 : Y7) (N : Nat) (words0 : List (List Int)) : callF (E3 a4 a5 a6 a7) lv3 N en3 c3 (resOf Tryd.f3) 139 [.dv (.arr 3 (.arr 5 (.int .u8))) words0] [] dec3 = m3 a4 a5 a6 a7 N words0 := by rw [wm3]; simp only [m3, ql3a]
theorem ok3 (a4 : Y4) (a5 : Y5) (a6 : Y6) (a7 : Y7) (h4 : FnOk Tryd.prog 4 (F4 a4)) (h5 : FnOk Tryd.prog 5 (F5 a5)) (h6 : FnOk Tryd.prog 6 (F6 a6)) (h7 : FnOk Tryd.prog 7 (F7 a7)) (a : Y3) (h : ∀ words0 r, a words0 = some r → (∃ N, m3 a4 a5 a6 a7 N words0 = some r)) : FnOk Tryd.prog 3 (F3 a) := by
 intro args Of x hx
 simp only [F3] at hx
 split at hx
 ·rename_i words0
  obtain ⟨N, hN⟩ := h _ _ hx
  refine lifted (L := [(4, F4 a4), (5, F5 a5), (6, F6 a6), (7, F7 a7)]) (rc := (fun i => ([(3, [some (.int .i64), none]), (21, [some (.int .i64), none])] : List (Nat × List (Option DT))).lookup i)) (fz := nfz) (fn := Tryd.f3) (by kernel_rfl) (by kernel_rfl) (by kernel_rfl) (by kernel_rfl) rfl ?_ ((k3 a4 a5 a6 a7 N _).trans hN) ?_
  ·intro p hp; simp only [List.mem_cons, List.not_mem_nil, or_false] at hp; rcases hp with rfl | rfl | rfl | rfl
   ·exact h4
   ·exact h5
   ·exact h6
   ·exact h7
  ·intro l o hd
   simp only [dec3] at hd
   split at hd
   ·obtain rfl := Option.some.inj hd; exact ⟨rfl, rfl⟩
   ·cases hd
 ·cases hx
def E65 : Env := mkE TI TY [] nrc nfz
noncomputable def c65 : Code := bodyOf Tryd.f65
def lv65 : Nat → Option Norm := norms []
def en65 : End := ⟨[], ⟨[6], [], [], []⟩⟩
def dec65 (l : List TV) (o : List (Nat × TO)) : Option (Bool) := match l, o with | [.dv (.bool) x0], [] => some (x0) | _, _ => none
def m65 (N : Nat) (x0 : Int) : Option (Bool) :=
   some (x0 != x0)
theorem k65 (N : Nat) (x0 : Int) : callF (E65) lv65 N en65 c65 (resOf Tryd.f65) 5 [.dv (.int .i64) x0] [] dec65 = m65 N x0 := by kernel_rfl
theorem ok65 (a : Y65) (h : ∀ x0 r, a x0 = some r → (∃ N, m65 N x0 = some r)) : FnOk Tryd.prog 65 (F65 a) := by
 intro args Of x hx
 simp only [F65] at hx
 split at hx
 ·rename_i x0
  obtain ⟨N, hN⟩ := h _ _ hx
  refine lifted (L := []) (rc := nrc) (fz := nfz) (fn := Tryd.f65) (by kernel_rfl) (by kernel_rfl) (by kernel_rfl) (by kernel_rfl) rfl ?_ ((k65 N _).trans hN) ?_
  ·intro p hp; cases hp
  ·intro l o hd
   simp only [dec65] at hd
   split at hd
   ·obtain rfl := Option.some.inj hd; exact ⟨rfl, rfl⟩
   ·cases hd
 ·cases hx
def E52 (a65 : Y65) : Env := mkE TI TY [(65, F65 a65)] nrc nfz
noncomputable def c52 : Code := bodyOf Tryd.f52
def lv52 : Nat → Option Norm := norms []
def en52 : End := ⟨[], ⟨[17], [], [], []⟩⟩
def dec52 (l : List TV) (o : List (Nat × TO)) : Option (Bool) := match l, o with | [.dv (.bool) x0], [] => some (x0) | _, _ => none
def m52 (a65 : Y65) (N : Nat) (x0 : Int) (y1 : Int) : Option (Bool) :=
   (a65 x0).bind fun r1 =>
   cond (r1) ((a65 y1).bind fun r2 =>
   cond (!r2) (some true)
   (some (decide (x0 < y1))))
   (some (decide (x0 < y1)))
theorem k52 (a65 : Y65) (N : Nat) (x0 : Int) (y1 : Int) : callF (E52 a65) lv52 N en52 c52 (resOf Tryd.f52) 15 [.dv (.int .i64) x0, .dv (.int .i64) y1] [] dec52 = m52 a65 N x0 y1 := by kernel_rfl
theorem ok52 (a65 : Y65) (h65 : FnOk Tryd.prog 65 (F65 a65)) (a : Y52) (h : ∀ x0 y1 r, a x0 y1 = some r → (∃ N, m52 a65 N x0 y1 = some r)) : FnOk Tryd.prog 52 (F52 a) := by
 intro args Of x hx
 simp only [F52] at hx
 split at hx
 ·rename_i x0 y1
  obtain ⟨N, hN⟩ := h _ _ _ hx
  refine lifted (L := [(65, F65 a65)]) (rc := nrc) (fz := nfz) (fn := Tryd.f52) (by kernel_rfl) (by kernel_rfl) (by kernel_rfl) (by kernel_rfl) rfl ?_ ((k52 a65 N _ _).trans hN) ?_
  ·intro p hp; simp only [List.mem_cons, List.not_mem_nil, or_false] at hp; rcases hp with rfl; exact h65
  ·intro l o hd
   simp only [dec52] at hd
   split at hd
   ·obtain rfl := Option.some.inj hd; exact ⟨rfl, rfl⟩
   ·cases hd
 ·cases hx
def E53 : Env := mkE TI TY [] nrc nfz
noncomputable def c53 : Code := bodyOf Tryd.f53
def lv53 : Nat → Option Norm := norms []
def en53 : End := ⟨[], ⟨[6], [], [], []⟩⟩
def dec53 (l : List TV) (o : List (Nat × TO)) : Option (Bool) := match l, o with | [.dv (.bool) x0], [] => some (x0) | _, _ => none
def m53 (N : Nat) (x0 : Int) : Option (Bool) :=
   some (x0 != x0)
theorem k53 (N : Nat) (x0 : Int) : callF (E53) lv53 N en53 c53 (resOf Tryd.f53) 5 [.dv (.int .i64) x0] [] dec53 = m53 N x0 := by kernel_rfl
theorem ok53 (a : Y53) (h : ∀ x0 r, a x0 = some r → (∃ N, m53 N x0 = some r)) : FnOk Tryd.prog 53 (F53 a) := by
 intro args Of x hx
 simp only [F53] at hx
 split at hx
 ·rename_i x0
  obtain ⟨N, hN⟩ := h _ _ hx
  refine lifted (L := []) (rc := nrc) (fz := nfz) (fn := Tryd.f53) (by kernel_rfl) (by kernel_rfl) (by kernel_rfl) (by kernel_rfl) rfl ?_ ((k53 N _).trans hN) ?_
  ·intro p hp; cases hp
  ·intro l o hd
   simp only [dec53] at hd
   split at hd
   ·obtain rfl := Option.some.inj hd; exact ⟨rfl, rfl⟩
   ·cases hd
 ·cases hx
def E38 (a52 : Y52) (a53 : Y53) : Env := mkE TI TY [(52, F52 a52), (53, F53 a53)] nrc nfz
noncomputable def c38 : Code := bodyOf Tryd.f38
def nm38_0 : Norm := ⟨[0, 1, 6, 7, 8], [], [], []⟩
def lv38 : Nat → Option Norm := norms [(3, nm38_0)]
def en38 : End := ⟨[], ⟨[54, 55], [], [], []⟩⟩
def dec38 (l : List TV) (o : List (Nat × TO)) : Option (Int × Bool) := match l, o with | [.dv (.int .i64) x0, .dv (.bool) x1], [] => some (x0, x1) | _, _ => none
def Sl38a (x0 : List Int) (target1 : Int) (i7_a : Int) (j8_a : Int) : TS := ⟨slots 54 [(0, .dv (.sl (.int .i64)) x0), (1, .dv (.int .i64) target1), (6, .dv (.int .i64) (x0.length : Int)), (7, .dv (.int .i64) i7_a), (8, .dv (.int .i64) j8_a)], []⟩
noncomputable def K38_0 (a52 : Y52) (a53 : Y53) (N : Nat) : Kont (Int × Bool) := kont (E38 a52 a53) lv38 N c38 [1, 1, 1, 0, 0] (fin TI en38 (resOf Tryd.f38) dec38)
noncomputable def R38_0 (a52 : Y52) (a53 : Y53) (N : Nat) (m : Nat) : TS → Option (Int × Bool) := loopK (den (E38 a52 a53) lv38 N (sub c38 [1, 1, 1, 0, 0, 0])) (TS.norm nm38_0) (K38_0 a52 a53 N) m
def l38a (a52 : Y52) (a53 : Y53) (N : Nat) (x0 : List Int) (target1 : Int) : Nat → Int → Int → Option (Int × Bool)
 | 0, _, _ => none
 | n + 1, i7_a, j8_a => cond (decide (i7_a < j8_a)) (chk (decide (0 ≤ w64 (Int.fdiv (IntKind.wrap .u64 (w64 (i7_a + j8_a))) (2 ^ min (Int.toNat (1 : Int)) 64)) ∧ w64 (Int.fdiv (IntKind.wrap .u64 (w64 (i7_a + j8_a))) (2 ^ min (Int.toNat (1 : Int)) 64)) < (x0.length : Int))) ((a52 (x0.getD ((w64 (Int.fdiv (IntKind.wrap .u64 (w64 (i7_a + j8_a))) (2 ^ min (Int.toNat (1 : Int)) 64))).toNat) (0 : Int)) target1).bind fun r1 =>
   cond (r1) ((l38a a52 a53 N x0 target1 n (w64 ((w64 (Int.fdiv (IntKind.wrap .u64 (w64 (i7_a + j8_a))) (2 ^ min (Int.toNat (1 : Int)) 64))) + (1 : Int))) j8_a))
   ((l38a a52 a53 N x0 target1 n i7_a (w64 (Int.fdiv (IntKind.wrap .u64 (w64 (i7_a + j8_a))) (2 ^ min (Int.toNat (1 : Int)) 64)))))))
   (cond (decide (i7_a < (x0.length : Int))) (chk (decide (0 ≤ i7_a ∧ i7_a < (x0.length : Int))) (cond ((x0.getD i7_a.toNat (0 : Int)) == target1) (some (i7_a, true))
   (chk (decide (0 ≤ i7_a ∧ i7_a < (x0.length : Int))) ((a53 (x0.getD i7_a.toNat (0 : Int))).bind fun r2 =>
   cond (r2) ((a53 target1).bind fun r3 =>
   some (i7_a, r3))
   (some (i7_a, false))))))
   (some (i7_a, false)))
theorem wl38a (a52 : Y52) (a53 : Y53) (N : Nat) (x0 : List Int) (target1 : Int) (m : Nat) (i7_a : Int) (j8_a : Int) : R38_0 a52 a53 N (m + 1) (Sl38a x0 target1 i7_a j8_a) = cond (decide (i7_a < j8_a)) (chk (decide (0 ≤ w64 (Int.fdiv (IntKind.wrap .u64 (w64 (i7_a + j8_a))) (2 ^ min (Int.toNat (1 : Int)) 64)) ∧ w64 (Int.fdiv (IntKind.wrap .u64 (w64 (i7_a + j8_a))) (2 ^ min (Int.toNat (1 : Int)) 64)) < (x0.length : Int))) ((a52 (x0.getD ((w64 (Int.fdiv (IntKind.wrap .u64 (w64 (i7_a + j8_a))) (2 ^ min (Int.toNat (1 : Int)) 64))).toNat) (0 : Int)) target1).bind fun r1 =>
   cond (r1) ((R38_0 a52 a53 N m (Sl38a x0 target1 (w64 ((w64 (Int.fdiv (IntKind.wrap .u64 (w64 (i7_a + j8_a))) (2 ^ min (Int.toNat (1 : Int)) 64))) + (1 : Int))) j8_a)))
   ((R38_0 a52 a53 N m (Sl38a x0 target1 i7_a (w64 (Int.fdiv (IntKind.wrap .u64 (w64 (i7_a + j8_a))) (2 ^ min (Int.toNat (1 : Int)) 64))))))))
   (cond (decide (i7_a < (x0.length : Int))) (chk (decide (0 ≤ i7_a ∧ i7_a < (x0.length : Int))) (cond ((x0.getD i7_a.toNat (0 : Int)) == target1) (some (i7_a, true))
   (chk (decide (0 ≤ i7_a ∧ i7_a < (x0.length : Int))) ((a53 (x0.getD i7_a.toNat (0 : Int))).bind fun r2 =>
   cond (r2) ((a53 target1).bind fun r3 =>
   some (i7_a, r3))
   (some (i7_a, false))))))
   (some (i7_a, false))) := by kernel_rfl
theorem ql38a (a52 : Y52) (a53 : Y53) (N : Nat) (x0 : List Int) (target1 : Int) : ∀ (m : Nat) (i7_a : Int) (j8_a : Int), R38_0 a52 a53 N m (Sl38a x0 target1 i7_a j8_a) = l38a a52 a53 N x0 target1 m i7_a j8_a
        | 0, _, _ => rfl
        | m + 1, i7_a, j8_a => by rw [wl38a]; simp only [l38a, ql38a a52 a53 N x0 target1 m]
def m38 (a52 : Y52) (a53 : Y53) (N : Nat) (x0 : List Int) (target1 : Int) : Option (Int × Bool) :=
   (l38a a52 a53 N x0 target1 N (0 : Int) (x0.length : Int))
theorem wm38 (a52 : Y52) (a53 : Y53) (N : Nat) (x0 : List Int) (target1 : Int) : callF (E38 a52 a53) lv38 N en38 c38 (resOf Tryd.f38) 52 [.dv (.sl (.int .i64)) x0, .dv (.int .i64) target1] [] dec38 = (R38_0 a52 a53 N N (Sl38a x0 target1 (0 : Int) (x0.length : Int))) := by kernel_rfl
theorem k38 (a52 : Y52) (a53 : Y53) (N : Nat) (x0 : List Int) (target1 : Int) : callF (E38 a52 a53) lv38 N en38 c38 (resOf Tryd.f38) 52 [.dv (.sl (.int .i64)) x0, .dv (.int .i64) target1] [] dec38 = m38 a52 a53 N x0 target1 := by rw [wm38]; simp only [m38, ql38a]
theorem ok38 (a52 : Y52) (a53 : Y53) (h52 : FnOk Tryd.prog 52 (F52 a52)) (h53 : FnOk Tryd.prog 53 (F53 a53)) (a : Y38) (h : ∀ x0 target1 r, a x0 target1 = some r → (∃ N, m38 a52 a53 N x0 target1 = some r)) : FnOk Tryd.prog 38 (F38 a) := by
 intro args Of x hx
 simp only [F38] at hx
 split at hx
 ·rename_i x0 target1
  obtain ⟨N, hN⟩ := h _ _ _ hx
  refine lifted (L := [(52, F52 a52), (53, F53 a53)]) (rc := nrc) (fz := nfz) (fn := Tryd.f38) (by kernel_rfl) (by kernel_rfl) (by kernel_rfl) (by kernel_rfl) rfl ?_ ((k38 a52 a53 N _ _).trans hN) ?_
  ·intro p hp; simp only [List.mem_cons, List.not_mem_nil, or_false] at hp; rcases hp with rfl | rfl
   ·exact h52
   ·exact h53
  ·intro l o hd
   simp only [dec38] at hd
   split at hd
   ·obtain rfl := Option.some.inj hd; exact ⟨rfl, rfl⟩
   ·cases hd
 ·cases hx
def E31 (a38 : Y38) : Env := mkE TI TY [(38, F38 a38)] nrc nfz
noncomputable def c31 : Code := bodyOf Tryd.f31
def nm31_0 : Norm := ⟨[0, 1, 4, 6], [4], [], []⟩
def lv31 : Nat → Option Norm := norms [(2, nm31_0)]
def en31 : End := ⟨[(35, .arr 2 (.int .i64))], ⟨[35, 36], [], [], []⟩⟩
def dec31 (l : List TV) (o : List (Nat × TO)) : Option (List Int × Bool) := match l, o with | [.dv (.arr 2 (.int .i64)) x0, .dv (.bool) x1], [] => some (x0, x1) | _, _ => none
def Sl31a (chain0 : List Int) (n1 : Int) (i6_a : Int) : TS := ⟨slots 35 [(0, .dv (.sl (.int .i64)) chain0), (1, .dv (.int .i64) n1), (4, .ptr 4 0 []), (6, .dv (.int .i64) i6_a)], [(4, .row (.arr 2 (.int .i64)) ([([(0 : Int), (0 : Int)] : List Int)] : List (List Int)))]⟩
noncomputable def K31_0 (a38 : Y38) (N : Nat) : Kont (List Int × Bool) := kont (E31 a38) lv31 N c31 [1, 0, 1, 0] (fin TI en31 (resOf Tryd.f31) dec31)
noncomputable def R31_0 (a38 : Y38) (N : Nat) (m : Nat) : TS → Option (List Int × Bool) := loopK (den (E31 a38) lv31 N (sub c31 [1, 0, 1, 0, 0])) (TS.norm nm31_0) (K31_0 a38 N) m
def l31a (a38 : Y38) (N : Nat) (chain0 : List Int) (n1 : Int) : Nat → Int → Option (List Int × Bool)
 | 0, _ => none
 | n + 1, i6_a => cond (decide (i6_a ≥ (0 : Int))) (chk (decide (0 ≤ w64 (i6_a + (1 : Int)) ∧ w64 (i6_a + (1 : Int)) ≤ (chain0.length : Int))) (chk (decide (0 ≤ i6_a ∧ i6_a < (chain0.length : Int))) ((a38 (chain0.take ((w64 (i6_a + (1 : Int))).toNat)) (w64 (n1 - (chain0.getD i6_a.toNat (0 : Int))))).bind fun r1 =>
   cond (r1.2) (some (([i6_a, r1.1] : List Int), true))
   ((l31a a38 N chain0 n1 n (w64 (i6_a - (1 : Int))))))))
   (some (([(0 : Int), (0 : Int)] : List Int), false))
theorem wl31a (a38 : Y38) (N : Nat) (chain0 : List Int) (n1 : Int) (m : Nat) (i6_a : Int) : R31_0 a38 N (m + 1) (Sl31a chain0 n1 i6_a) = cond (decide (i6_a ≥ (0 : Int))) (chk (decide (0 ≤ w64 (i6_a + (1 : Int)) ∧ w64 (i6_a + (1 : Int)) ≤ (chain0.length : Int))) (chk (decide (0 ≤ i6_a ∧ i6_a < (chain0.length : Int))) ((a38 (chain0.take ((w64 (i6_a + (1 : Int))).toNat)) (w64 (n1 - (chain0.getD i6_a.toNat (0 : Int))))).bind fun r1 =>
   cond (r1.2) (some (([i6_a, r1.1] : List Int), true))
   ((R31_0 a38 N m (Sl31a chain0 n1 (w64 (i6_a - (1 : Int)))))))))
   (some (([(0 : Int), (0 : Int)] : List Int), false)) := by kernel_rfl
theorem ql31a (a38 : Y38) (N : Nat) (chain0 : List Int) (n1 : Int) : ∀ (m : Nat) (i6_a : Int), R31_0 a38 N m (Sl31a chain0 n1 i6_a) = l31a a38 N chain0 n1 m i6_a
        | 0, _ => rfl
        | m + 1, i6_a => by rw [wl31a]; simp only [l31a, ql31a a38 N chain0 n1 m]
def m31 (a38 : Y38) (N : Nat) (chain0 : List Int) (n1 : Int) : Option (List Int × Bool) :=
   (l31a a38 N chain0 n1 N (w64 ((chain0.length : Int) - (1 : Int))))
theorem wm31 (a38 : Y38) (N : Nat) (chain0 : List Int) (n1 : Int) : callF (E31 a38) lv31 N en31 c31 (resOf Tryd.f31) 33 [.dv (.sl (.int .i64)) chain0, .dv (.int .i64) n1] [] dec31 = (R31_0 a38 N N (Sl31a chain0 n1 (w64 ((chain0.length : Int) - (1 : Int))))) := by kernel_rfl
theorem k31 (a38 : Y38) (N : Nat) (chain0 : List Int) (n1 : Int) : callF (E31 a38) lv31 N en31 c31 (resOf Tryd.f31) 33 [.dv (.sl (.int .i64)) chain0, .dv (.int .i64) n1] [] dec31 = m31 a38 N chain0 n1 := by rw [wm31]; simp only [m31, ql31a]
theorem ok31 (a38 : Y38) (h38 : FnOk Tryd.prog 38 (F38 a38)) (a : Y31) (h : ∀ chain0 n1 r, a chain0 n1 = some r → (∃ N, m31 a38 N chain0 n1 = some r)) : FnOk Tryd.prog 31 (F31 a) := by
 intro args Of x hx
 simp only [F31] at hx
 split at hx
 ·rename_i chain0 n1
  obtain ⟨N, hN⟩ := h _ _ _ hx
  refine lifted (L := [(38, F38 a38)]) (rc := nrc) (fz := nfz) (fn := Tryd.f31) (by kernel_rfl) (by kernel_rfl) (by kernel_rfl) (by kernel_rfl) rfl ?_ ((k31 a38 N _ _).trans hN) ?_
  ·intro p hp; simp only [List.mem_cons, List.not_mem_nil, or_false] at hp; rcases hp with rfl; exact h38
  ·intro l o hd
   simp only [dec31] at hd
   split at hd
   ·obtain rfl := Option.some.inj hd; exact ⟨rfl, rfl⟩
   ·cases hd
 ·cases hx
def E30 : Env := mkE TI TY [] nrc nfz
noncomputable def c30 : Code := bodyOf Tryd.f30
def nm30_0 : Norm := ⟨[0, 1, 7, 8], [], [], []⟩
def lv30 : Nat → Option Norm := norms [(2, nm30_0)]
def en30 : End := ⟨[], ⟨[19], [], [], []⟩⟩
def dec30 (l : List TV) (o : List (Nat × TO)) : Option (Int) := match l, o with | [.dv (.int .i64) x0], [] => some (x0) | _, _ => none
def Sl30a (s0 : List Int) (v1 : Int) (t8_a : Int) : TS := ⟨slots 19 [(0, .dv (.sl (.int .i64)) s0), (1, .dv (.int .i64) v1), (7, .dv (.int .i64) (s0.length : Int)), (8, .dv (.int .i64) t8_a)], []⟩
noncomputable def K30_0 (N : Nat) : Kont (Int) := kont (E30) lv30 N c30 [1, 0, 1, 0] (fin TI en30 (resOf Tryd.f30) dec30)
noncomputable def R30_0 (N : Nat) (m : Nat) : TS → Option (Int) := loopK (den (E30) lv30 N (sub c30 [1, 0, 1, 0, 0])) (TS.norm nm30_0) (K30_0 N) m
def l30a (N : Nat) (s0 : List Int) (v1 : Int) : Nat → Int → Option (Int)
 | 0, _ => none
 | n + 1, t8_a => cond (decide (t8_a < (s0.length : Int))) (chk (decide (0 ≤ t8_a ∧ t8_a < (s0.length : Int))) (cond (v1 == (s0.getD t8_a.toNat (0 : Int))) (some t8_a)
   ((l30a N s0 v1 n (w64 (t8_a + (1 : Int)))))))
   (some (-1 : Int))
theorem wl30a (N : Nat) (s0 : List Int) (v1 : Int) (m : Nat) (t8_a : Int) : R30_0 N (m + 1) (Sl30a s0 v1 t8_a) = cond (decide (t8_a < (s0.length : Int))) (chk (decide (0 ≤ t8_a ∧ t8_a < (s0.length : Int))) (cond (v1 == (s0.getD t8_a.toNat (0 : Int))) (some t8_a)
   ((R30_0 N m (Sl30a s0 v1 (w64 (t8_a + (1 : Int))))))))
   (some (-1 : Int)) := by kernel_rfl
theorem ql30a (N : Nat) (s0 : List Int) (v1 : Int) : ∀ (m : Nat) (t8_a : Int), R30_0 N m (Sl30a s0 v1 t8_a) = l30a N s0 v1 m t8_a
        | 0, _ => rfl
        | m + 1, t8_a => by rw [wl30a]; simp only [l30a, ql30a N s0 v1 m]
def m30 (N : Nat) (s0 : List Int) (v1 : Int) : Option (Int) :=
   (l30a N s0 v1 N (0 : Int))
theorem wm30 (N : Nat) (s0 : List Int) (v1 : Int) : callF (E30) lv30 N en30 c30 (resOf Tryd.f30) 17 [.dv (.sl (.int .i64)) s0, .dv (.int .i64) v1] [] dec30 = (R30_0 N N (Sl30a s0 v1 (0 : Int))) := by kernel_rfl
theorem k30 (N : Nat) (s0 : List Int) (v1 : Int) : callF (E30) lv30 N en30 c30 (resOf Tryd.f30) 17 [.dv (.sl (.int .i64)) s0, .dv (.int .i64) v1] [] dec30 = m30 N s0 v1 := by rw [wm30]; simp only [m30, ql30a]
theorem ok30 (a : Y30) (h : ∀ s0 v1 r, a s0 v1 = some r → (∃ N, m30 N s0 v1 = some r)) : FnOk Tryd.prog 30 (F30 a) := by
 intro args Of x hx
 simp only [F30] at hx
 split at hx
 ·rename_i s0 v1
  obtain ⟨N, hN⟩ := h _ _ _ hx
  refine lifted (L := []) (rc := nrc) (fz := nfz) (fn := Tryd.f30) (by kernel_rfl) (by kernel_rfl) (by kernel_rfl) (by kernel_rfl) rfl ?_ ((k30 N _ _).trans hN) ?_
  ·intro p hp; cases hp
  ·intro l o hd
   simp only [dec30] at hd
   split at hd
   ·obtain rfl := Option.some.inj hd; exact ⟨rfl, rfl⟩
   ·cases hd
 ·cases hx
def E20 (a30 : Y30) : Env := mkE TI TY [(30, F30 a30)] nrc nfz
noncomputable def c20 : Code := bodyOf Tryd.f20
def lv20 : Nat → Option Norm := norms []
def en20 : End := ⟨[], ⟨[9], [], [], []⟩⟩
def dec20 (l : List TV) (o : List (Nat × TO)) : Option (Bool) := match l, o with | [.dv (.bool) x0], [] => some (x0) | _, _ => none
def m20 (a30 : Y30) (N : Nat) (s0 : List Int) (v1 : Int) : Option (Bool) :=
   (a30 s0 v1).bind fun r1 =>
   some (decide (r1 ≥ (0 : Int)))
theorem k20 (a30 : Y30) (N : Nat) (s0 : List Int) (v1 : Int) : callF (E20 a30) lv20 N en20 c20 (resOf Tryd.f20) 7 [.dv (.sl (.int .i64)) s0, .dv (.int .i64) v1] [] dec20 = m20 a30 N s0 v1 := by kernel_rfl
theorem ok20 (a30 : Y30) (h30 : FnOk Tryd.prog 30 (F30 a30)) (a : Y20) (h : ∀ s0 v1 r, a s0 v1 = some r → (∃ N, m20 a30 N s0 v1 = some r)) : FnOk Tryd.prog 20 (F20 a) := by
 intro args Of x hx
 simp only [F20] at hx
 split at hx
 ·rename_i s0 v1
  obtain ⟨N, hN⟩ := h _ _ _ hx
  refine lifted (L := [(30, F30 a30)]) (rc := nrc) (fz := nfz) (fn := Tryd.f20) (by kernel_rfl) (by kernel_rfl) (by kernel_rfl) (by kernel_rfl) rfl ?_ ((k20 a30 N _ _).trans hN) ?_
  ·intro p hp; simp only [List.mem_cons, List.not_mem_nil, or_false] at hp; rcases hp with rfl; exact h30
  ·intro l o hd
   simp only [dec20] at hd
   split at hd
   ·obtain rfl := Option.some.inj hd; exact ⟨rfl, rfl⟩
   ·cases hd
 ·cases hx
def E24 : Env := mkE TI TY [] nrc nfz
noncomputable def c24 : Code := bodyOf Tryd.f24
def lv24 : Nat → Option Norm := norms []
def en24 : End := ⟨[(8, .sl (.int .i64))], ⟨[8], [], [], []⟩⟩
def dec24 (l : List TV) (o : List (Nat × TO)) : Option (List Int) := match l, o with | [.dv (.sl (.int .i64)) x0], [] => some (x0) | _, _ => none
def m24 (N : Nat) (s0 : Option (List Int)) : Option (List Int) :=
   cond (s0.isNone) (some ([] : List Int))
   (chk (small (0 + (s0.getD []).length) 8) (some (([] : List Int) ++ (s0.getD []))))
theorem k24 (N : Nat) (s0 : Option (List Int)) : callF (E24) lv24 N en24 c24 (resOf Tryd.f24) 7 [.dv (.nsl (.int .i64)) s0] [] dec24 = m24 N s0 := by kernel_rfl
theorem ok24 (a : Y24) (h : ∀ s0 r, a s0 = some r → (∃ N, m24 N s0 = some r)) : FnOk Tryd.prog 24 (F24 a) := by
 intro args Of x hx
 simp only [F24] at hx
 split at hx
 ·rename_i s0
  obtain ⟨N, hN⟩ := h _ _ hx
  refine lifted (L := []) (rc := nrc) (fz := nfz) (fn := Tryd.f24) (by kernel_rfl) (by kernel_rfl) (by kernel_rfl) (by kernel_rfl) rfl ?_ ((k24 N _).trans hN) ?_
  ·intro p hp; cases hp
  ·intro l o hd
   simp only [dec24] at hd
   split at hd
   ·obtain rfl := Option.some.inj hd; exact ⟨rfl, rfl⟩
   ·cases hd
 ·cases hx
end Go.Proofs.YtfopcfnggdonkaaDoor
