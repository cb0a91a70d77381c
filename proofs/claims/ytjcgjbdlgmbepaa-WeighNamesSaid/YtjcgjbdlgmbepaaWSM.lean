/-
  The functions that the law reaches, told as plain functions.
-/
import Derived.Test.YtjcgjbdlgmbepaaWM0
namespace Go.Proofs.Ytjcgjbdlgmbepaa
open Go.RowKit
set_option linter.unusedVariables false
def E49 : Env := mkE TI TY [] nrc nfz
noncomputable def c49 : Code := bodyOf Try.f49
def nm49_0 : Norm := ⟨[1, 2, 3, 9, 23, 24], [21], [], []⟩
def nm49_1 : Norm := ⟨[9, 38, 39, 40], [21], [(.slot 11, 1011, .int .i64)], []⟩
def nm49_2 : Norm := ⟨[9, 11, 13, 14, 15, 38, 39, 40, 45, 46, 47], [21, 1011, 13], [], []⟩
def nm49_3 : Norm := ⟨[9, 11, 14, 15, 38, 39, 40, 59, 60, 61], [21, 1011], [], []⟩
def lv49 : Nat → Option Norm := norms [(3, nm49_0), (10, nm49_1), (14, nm49_2), (19, nm49_3)]
def en49 : End := ⟨[(91, .sl (.int .i64))], ⟨[91], [], [], []⟩⟩
def dec49 (l : List TV) (o : List (Nat × TO)) : Option (List Int) := match l, o with | [.dv (.sl (.int .i64)) x0], [] => some (x0) | _, _ => none
noncomputable def K49_0 (N : Nat) : Kont (List Int) := kont (E49) lv49 N c49 [1, 1, 0, 1, 0] (fin TI en49 (resOf Try.f49) dec49)
noncomputable def R49_0 (N : Nat) (m : Nat) : TS → Option (List Int) := loopK (den (E49) lv49 N (sub c49 [1, 1, 0, 1, 0, 0])) (TS.norm nm49_0) (K49_0 N) m
noncomputable def K49_1 (N : Nat) : Kont (List Int) := kont (E49) lv49 N c49 [1, 1, 1, 1, 1, 0, 1, 0] (fin TI en49 (resOf Try.f49) dec49)
noncomputable def R49_1 (N : Nat) (m : Nat) : TS → Option (List Int) := loopK (den (E49) lv49 N (sub c49 [1, 1, 1, 1, 1, 0, 1, 0, 0])) (TS.norm nm49_1) (K49_1 N) m
noncomputable def K49_2 (N : Nat) (T49_1 : TS → Option (List Int)) : Kont (List Int) := kont (E49) lv49 N (sub c49 [1, 1, 1, 1, 1, 0, 1, 0, 0]) [1, 1, 0, 0, 1, 1, 0, 1, 0] (kloop (TS.norm nm49_1) (K49_1 N) T49_1)
noncomputable def R49_2 (N : Nat) (T49_1 : TS → Option (List Int)) (m : Nat) : TS → Option (List Int) := loopK (den (E49) lv49 N (sub c49 [1, 1, 1, 1, 1, 0, 1, 0, 0, 1, 1, 0, 0, 1, 1, 0, 1, 0, 0])) (TS.norm nm49_2) (K49_2 N T49_1) m
noncomputable def K49_3 (N : Nat) (T49_1 : TS → Option (List Int)) : Kont (List Int) := kont (E49) lv49 N (sub c49 [1, 1, 1, 1, 1, 0, 1, 0, 0]) [1, 1, 0, 0, 1, 1, 1, 0, 1, 0] (kloop (TS.norm nm49_1) (K49_1 N) T49_1)
noncomputable def R49_3 (N : Nat) (T49_1 : TS → Option (List Int)) (m : Nat) : TS → Option (List Int) := loopK (den (E49) lv49 N (sub c49 [1, 1, 1, 1, 1, 0, 1, 0, 0, 1, 1, 0, 0, 1, 1, 1, 0, 1, 0, 0])) (TS.norm nm49_3) (K49_3 N T49_1) m
def Sl49d (plan1 : List (List Int × List Int × Unit)) (odd2 : Int) (way3 : Int) (o21_a : List Int) (t40_b : Int) (out11_b : List Int) (left14_c : Int) (right15_d : Int) (t61_d : Int) : TS := ⟨slots 91 [(9, .row 21), (11, .row 1011), (14, .dv (.int .i64) left14_c), (15, .dv (.int .i64) right15_d), (38, .dv (.sl (.pair (.sl (.int .i64)) (.pair (.sl (.int .i64)) (.unit)))) plan1), (39, .dv (.int .i64) (plan1.length : Int)), (40, .dv (.int .i64) t40_b), (59, .dv (.sl (.int .i64)) (((plan1.getD t40_b.toNat (([] : List Int), (([] : List Int), ()))).2).1)), (60, .dv (.int .i64) ((((plan1.getD t40_b.toNat (([] : List Int), (([] : List Int), ()))).2).1).length : Int)), (61, .dv (.int .i64) t61_d)], [(21, .row (.int .i64) (o21_a.set odd2.toNat (w64 ((o21_a.getD odd2.toNat (0 : Int)) + way3)))), (1011, .row (.int .i64) out11_b)]⟩
def Sl49c (plan1 : List (List Int × List Int × Unit)) (odd2 : Int) (way3 : Int) (o21_a : List Int) (t40_b : Int) (out11_b : List Int) (left14_c : Int) (t47_c : Int) : TS := ⟨slots 91 [(9, .row 21), (11, .row 1011), (13, .ptr 13 0 []), (14, .dv (.int .i64) left14_c), (15, .dv (.int .i64) (0 : Int)), (38, .dv (.sl (.pair (.sl (.int .i64)) (.pair (.sl (.int .i64)) (.unit)))) plan1), (39, .dv (.int .i64) (plan1.length : Int)), (40, .dv (.int .i64) t40_b), (45, .dv (.sl (.int .i64)) ((plan1.getD t40_b.toNat (([] : List Int), (([] : List Int), ()))).1)), (46, .dv (.int .i64) (((plan1.getD t40_b.toNat (([] : List Int), (([] : List Int), ()))).1).length : Int)), (47, .dv (.int .i64) t47_c)], [(21, .row (.int .i64) (o21_a.set odd2.toNat (w64 ((o21_a.getD odd2.toNat (0 : Int)) + way3)))), (1011, .row (.int .i64) out11_b), (13, .row (.pair (.sl (.int .i64)) (.pair (.sl (.int .i64)) (.unit))) ([plan1.getD t40_b.toNat (([] : List Int), (([] : List Int), ()))] : List (List Int × List Int × Unit)))]⟩
def Sl49b (plan1 : List (List Int × List Int × Unit)) (odd2 : Int) (way3 : Int) (o21_a : List Int) (t40_b : Int) (out11_b : List Int) : TS := ⟨slots 91 [(9, .row 21), (11, .row 1011), (38, .dv (.sl (.pair (.sl (.int .i64)) (.pair (.sl (.int .i64)) (.unit)))) plan1), (39, .dv (.int .i64) (plan1.length : Int)), (40, .dv (.int .i64) t40_b)], [(1011, .row (.int .i64) out11_b), (21, .row (.int .i64) (o21_a.set odd2.toNat (w64 ((o21_a.getD odd2.toNat (0 : Int)) + way3))))]⟩
def Sl49a (n0 : Int) (plan1 : List (List Int × List Int × Unit)) (odd2 : Int) (way3 : Int) (t24_a : Int) (o21_a : List Int) : TS := ⟨slots 91 [(1, .dv (.sl (.pair (.sl (.int .i64)) (.pair (.sl (.int .i64)) (.unit)))) plan1), (2, .dv (.int .i64) odd2), (3, .dv (.int .i64) way3), (9, .row 21), (23, .dv (.int .i64) ((List.replicate n0.toNat (0 : Int)).length : Int)), (24, .dv (.int .i64) t24_a)], [(21, .row (.int .i64) o21_a)]⟩
def l49d (N : Nat) (plan1 : List (List Int × List Int × Unit)) (odd2 : Int) (way3 : Int) (o21_a : List Int) (t40_b : Int) (out11_b : List Int) (left14_c : Int) (rec_l49b : Int → (List Int) → Option (List Int)) : Nat → Int → Int → Option (List Int)
  | 0, _, _ => none
  | n + 1, right15_d, t61_d => cond (decide (t61_d < ((((plan1.getD t40_b.toNat (([] : List Int), (([] : List Int), ()))).2).1).length : Int))) (chk (decide (0 ≤ t61_d ∧ t61_d < ((((plan1.getD t40_b.toNat (([] : List Int), (([] : List Int), ()))).2).1).length : Int))) (chk (decide (0 ≤ (((plan1.getD t40_b.toNat (([] : List Int), (([] : List Int), ()))).2).1).getD t61_d.toNat (0 : Int) ∧ (((plan1.getD t40_b.toNat (([] : List Int), (([] : List Int), ()))).2).1).getD t61_d.toNat (0 : Int) < ((o21_a.set odd2.toNat (w64 ((o21_a.getD odd2.toNat (0 : Int)) + way3))).length : Int))) ((l49d N plan1 odd2 way3 o21_a t40_b out11_b left14_c rec_l49b n (w64 (right15_d + ((o21_a.set odd2.toNat (w64 ((o21_a.getD odd2.toNat (0 : Int)) + way3))).getD (((((plan1.getD t40_b.toNat (([] : List Int), (([] : List Int), ()))).2).1).getD t61_d.toNat (0 : Int)).toNat) (0 : Int)))) (w64 (t61_d + (1 : Int)))))))
      (cond (decide (left14_c > right15_d)) (chk (small (out11_b.length + 1) 8) ((rec_l49b (w64 (t40_b + (1 : Int))) (out11_b ++ ([(-1 : Int)] : List Int)))))
      (cond (decide (left14_c < right15_d)) (chk (small (out11_b.length + 1) 8) ((rec_l49b (w64 (t40_b + (1 : Int))) (out11_b ++ ([(1 : Int)] : List Int)))))
      (chk (small (out11_b.length + 1) 8) ((rec_l49b (w64 (t40_b + (1 : Int))) (out11_b ++ ([(0 : Int)] : List Int)))))))
theorem wl49d (N : Nat) (plan1 : List (List Int × List Int × Unit)) (odd2 : Int) (way3 : Int) (o21_a : List Int) (t40_b : Int) (out11_b : List Int) (left14_c : Int) (T49_1 : TS → Option (List Int)) (m : Nat) (right15_d : Int) (t61_d : Int) : R49_3 N T49_1 (m + 1) (Sl49d plan1 odd2 way3 o21_a t40_b out11_b left14_c right15_d t61_d) = cond (decide (t61_d < ((((plan1.getD t40_b.toNat (([] : List Int), (([] : List Int), ()))).2).1).length : Int))) (chk (decide (0 ≤ t61_d ∧ t61_d < ((((plan1.getD t40_b.toNat (([] : List Int), (([] : List Int), ()))).2).1).length : Int))) (chk (decide (0 ≤ (((plan1.getD t40_b.toNat (([] : List Int), (([] : List Int), ()))).2).1).getD t61_d.toNat (0 : Int) ∧ (((plan1.getD t40_b.toNat (([] : List Int), (([] : List Int), ()))).2).1).getD t61_d.toNat (0 : Int) < ((o21_a.set odd2.toNat (w64 ((o21_a.getD odd2.toNat (0 : Int)) + way3))).length : Int))) ((R49_3 N T49_1 m (Sl49d plan1 odd2 way3 o21_a t40_b out11_b left14_c (w64 (right15_d + ((o21_a.set odd2.toNat (w64 ((o21_a.getD odd2.toNat (0 : Int)) + way3))).getD (((((plan1.getD t40_b.toNat (([] : List Int), (([] : List Int), ()))).2).1).getD t61_d.toNat (0 : Int)).toNat) (0 : Int)))) (w64 (t61_d + (1 : Int))))))))
      (cond (decide (left14_c > right15_d)) (chk (small (out11_b.length + 1) 8) ((T49_1 (Sl49b plan1 odd2 way3 o21_a (w64 (t40_b + (1 : Int))) (out11_b ++ ([(-1 : Int)] : List Int))))))
      (cond (decide (left14_c < right15_d)) (chk (small (out11_b.length + 1) 8) ((T49_1 (Sl49b plan1 odd2 way3 o21_a (w64 (t40_b + (1 : Int))) (out11_b ++ ([(1 : Int)] : List Int))))))
      (chk (small (out11_b.length + 1) 8) ((T49_1 (Sl49b plan1 odd2 way3 o21_a (w64 (t40_b + (1 : Int))) (out11_b ++ ([(0 : Int)] : List Int)))))))) := by kernel_rfl
theorem ql49d (N : Nat) (plan1 : List (List Int × List Int × Unit)) (odd2 : Int) (way3 : Int) (o21_a : List Int) (t40_b : Int) (out11_b : List Int) (left14_c : Int) (T49_1 : TS → Option (List Int)) : ∀ (m : Nat) (right15_d : Int) (t61_d : Int), R49_3 N T49_1 m (Sl49d plan1 odd2 way3 o21_a t40_b out11_b left14_c right15_d t61_d) = l49d N plan1 odd2 way3 o21_a t40_b out11_b left14_c (fun y0 y1 => T49_1 (Sl49b plan1 odd2 way3 o21_a y0 y1)) m right15_d t61_d
        | 0, _, _ => rfl
        | m + 1, right15_d, t61_d => by rw [wl49d]; simp only [l49d, ql49d N plan1 odd2 way3 o21_a t40_b out11_b left14_c T49_1 m]
def l49c (N : Nat) (plan1 : List (List Int × List Int × Unit)) (odd2 : Int) (way3 : Int) (o21_a : List Int) (t40_b : Int) (out11_b : List Int) (rec_l49b : Int → (List Int) → Option (List Int)) : Nat → Int → Int → Option (List Int)
  | 0, _, _ => none
  | n + 1, left14_c, t47_c => cond (decide (t47_c < (((plan1.getD t40_b.toNat (([] : List Int), (([] : List Int), ()))).1).length : Int))) (chk (decide (0 ≤ t47_c ∧ t47_c < (((plan1.getD t40_b.toNat (([] : List Int), (([] : List Int), ()))).1).length : Int))) (chk (decide (0 ≤ ((plan1.getD t40_b.toNat (([] : List Int), (([] : List Int), ()))).1).getD t47_c.toNat (0 : Int) ∧ ((plan1.getD t40_b.toNat (([] : List Int), (([] : List Int), ()))).1).getD t47_c.toNat (0 : Int) < ((o21_a.set odd2.toNat (w64 ((o21_a.getD odd2.toNat (0 : Int)) + way3))).length : Int))) ((l49c N plan1 odd2 way3 o21_a t40_b out11_b rec_l49b n (w64 (left14_c + ((o21_a.set odd2.toNat (w64 ((o21_a.getD odd2.toNat (0 : Int)) + way3))).getD ((((plan1.getD t40_b.toNat (([] : List Int), (([] : List Int), ()))).1).getD t47_c.toNat (0 : Int)).toNat) (0 : Int)))) (w64 (t47_c + (1 : Int)))))))
      ((l49d N plan1 odd2 way3 o21_a t40_b out11_b left14_c rec_l49b N (0 : Int) (0 : Int)))
theorem wl49c (N : Nat) (plan1 : List (List Int × List Int × Unit)) (odd2 : Int) (way3 : Int) (o21_a : List Int) (t40_b : Int) (out11_b : List Int) (T49_1 : TS → Option (List Int)) (m : Nat) (left14_c : Int) (t47_c : Int) : R49_2 N T49_1 (m + 1) (Sl49c plan1 odd2 way3 o21_a t40_b out11_b left14_c t47_c) = cond (decide (t47_c < (((plan1.getD t40_b.toNat (([] : List Int), (([] : List Int), ()))).1).length : Int))) (chk (decide (0 ≤ t47_c ∧ t47_c < (((plan1.getD t40_b.toNat (([] : List Int), (([] : List Int), ()))).1).length : Int))) (chk (decide (0 ≤ ((plan1.getD t40_b.toNat (([] : List Int), (([] : List Int), ()))).1).getD t47_c.toNat (0 : Int) ∧ ((plan1.getD t40_b.toNat (([] : List Int), (([] : List Int), ()))).1).getD t47_c.toNat (0 : Int) < ((o21_a.set odd2.toNat (w64 ((o21_a.getD odd2.toNat (0 : Int)) + way3))).length : Int))) ((R49_2 N T49_1 m (Sl49c plan1 odd2 way3 o21_a t40_b out11_b (w64 (left14_c + ((o21_a.set odd2.toNat (w64 ((o21_a.getD odd2.toNat (0 : Int)) + way3))).getD ((((plan1.getD t40_b.toNat (([] : List Int), (([] : List Int), ()))).1).getD t47_c.toNat (0 : Int)).toNat) (0 : Int)))) (w64 (t47_c + (1 : Int))))))))
      ((R49_3 N T49_1 N (Sl49d plan1 odd2 way3 o21_a t40_b out11_b left14_c (0 : Int) (0 : Int)))) := by kernel_rfl
theorem ql49c (N : Nat) (plan1 : List (List Int × List Int × Unit)) (odd2 : Int) (way3 : Int) (o21_a : List Int) (t40_b : Int) (out11_b : List Int) (T49_1 : TS → Option (List Int)) : ∀ (m : Nat) (left14_c : Int) (t47_c : Int), R49_2 N T49_1 m (Sl49c plan1 odd2 way3 o21_a t40_b out11_b left14_c t47_c) = l49c N plan1 odd2 way3 o21_a t40_b out11_b (fun y0 y1 => T49_1 (Sl49b plan1 odd2 way3 o21_a y0 y1)) m left14_c t47_c
        | 0, _, _ => rfl
        | m + 1, left14_c, t47_c => by rw [wl49c]; simp only [l49c, ql49d, ql49c N plan1 odd2 way3 o21_a t40_b out11_b T49_1 m]
def l49b (N : Nat) (plan1 : List (List Int × List Int × Unit)) (odd2 : Int) (way3 : Int) (o21_a : List Int) : Nat → Int → (List Int) → Option (List Int)
  | 0, _, _ => none
  | n + 1, t40_b, out11_b => cond (decide (t40_b < (plan1.length : Int))) (chk (decide (0 ≤ t40_b ∧ t40_b < (plan1.length : Int))) ((l49c N plan1 odd2 way3 o21_a t40_b out11_b (fun y0 y1 => (l49b N plan1 odd2 way3 o21_a n y0 y1)) N (0 : Int) (0 : Int))))
      (some out11_b)
theorem wl49b (N : Nat) (plan1 : List (List Int × List Int × Unit)) (odd2 : Int) (way3 : Int) (o21_a : List Int) (m : Nat) (t40_b : Int) (out11_b : List Int) : R49_1 N (m + 1) (Sl49b plan1 odd2 way3 o21_a t40_b out11_b) = cond (decide (t40_b < (plan1.length : Int))) (chk (decide (0 ≤ t40_b ∧ t40_b < (plan1.length : Int))) ((R49_2 N (R49_1 N m) N (Sl49c plan1 odd2 way3 o21_a t40_b out11_b (0 : Int) (0 : Int)))))
      (some out11_b) := by kernel_rfl
theorem ql49b (N : Nat) (plan1 : List (List Int × List Int × Unit)) (odd2 : Int) (way3 : Int) (o21_a : List Int) : ∀ (m : Nat) (t40_b : Int) (out11_b : List Int), R49_1 N m (Sl49b plan1 odd2 way3 o21_a t40_b out11_b) = l49b N plan1 odd2 way3 o21_a m t40_b out11_b
        | 0, _, _ => rfl
        | m + 1, t40_b, out11_b => by rw [wl49b]; simp only [l49b, ql49c, ql49b N plan1 odd2 way3 o21_a m]
def l49a (N : Nat) (n0 : Int) (plan1 : List (List Int × List Int × Unit)) (odd2 : Int) (way3 : Int) : Nat → Int → (List Int) → Option (List Int)
  | 0, _, _ => none
  | n + 1, t24_a, o21_a => cond (decide (t24_a < ((List.replicate n0.toNat (0 : Int)).length : Int))) (chk (decide (0 ≤ t24_a ∧ t24_a < (o21_a.length : Int))) ((l49a N n0 plan1 odd2 way3 n (w64 (t24_a + (1 : Int))) (o21_a.set t24_a.toNat (10 : Int)))))
      (chk (decide (0 ≤ odd2 ∧ odd2 < (o21_a.length : Int))) (chk (decide (0 ≤ odd2 ∧ odd2 < (o21_a.length : Int))) ((l49b N plan1 odd2 way3 o21_a N (0 : Int) ([] : List Int)))))
theorem wl49a (N : Nat) (n0 : Int) (plan1 : List (List Int × List Int × Unit)) (odd2 : Int) (way3 : Int) (m : Nat) (t24_a : Int) (o21_a : List Int) : R49_0 N (m + 1) (Sl49a n0 plan1 odd2 way3 t24_a o21_a) = cond (decide (t24_a < ((List.replicate n0.toNat (0 : Int)).length : Int))) (chk (decide (0 ≤ t24_a ∧ t24_a < (o21_a.length : Int))) ((R49_0 N m (Sl49a n0 plan1 odd2 way3 (w64 (t24_a + (1 : Int))) (o21_a.set t24_a.toNat (10 : Int))))))
      (chk (decide (0 ≤ odd2 ∧ odd2 < (o21_a.length : Int))) (chk (decide (0 ≤ odd2 ∧ odd2 < (o21_a.length : Int))) ((R49_1 N N (Sl49b plan1 odd2 way3 o21_a (0 : Int) ([] : List Int)))))) := by kernel_rfl
theorem ql49a (N : Nat) (n0 : Int) (plan1 : List (List Int × List Int × Unit)) (odd2 : Int) (way3 : Int) : ∀ (m : Nat) (t24_a : Int) (o21_a : List Int), R49_0 N m (Sl49a n0 plan1 odd2 way3 t24_a o21_a) = l49a N n0 plan1 odd2 way3 m t24_a o21_a
        | 0, _, _ => rfl
        | m + 1, t24_a, o21_a => by rw [wl49a]; simp only [l49a, ql49b, ql49a N n0 plan1 odd2 way3 m]
def m49 (N : Nat) (n0 : Int) (plan1 : List (List Int × List Int × Unit)) (odd2 : Int) (way3 : Int) : Option (List Int) :=
      chk (mkOk n0 n0 8) ((l49a N n0 plan1 odd2 way3 N (0 : Int) (List.replicate n0.toNat (0 : Int))))
theorem wm49 (N : Nat) (n0 : Int) (plan1 : List (List Int × List Int × Unit)) (odd2 : Int) (way3 : Int) : callF (E49) lv49 N en49 c49 (resOf Try.f49) 87 [.dv (.int .i64) n0, .dv (.sl (.pair (.sl (.int .i64)) (.pair (.sl (.int .i64)) (.unit)))) plan1, .dv (.int .i64) odd2, .dv (.int .i64) way3] [] dec49 = chk (mkOk n0 n0 8) ((R49_0 N N (Sl49a n0 plan1 odd2 way3 (0 : Int) (List.replicate n0.toNat (0 : Int))))) := by kernel_rfl
theorem k49 (N : Nat) (n0 : Int) (plan1 : List (List Int × List Int × Unit)) (odd2 : Int) (way3 : Int) : callF (E49) lv49 N en49 c49 (resOf Try.f49) 87 [.dv (.int .i64) n0, .dv (.sl (.pair (.sl (.int .i64)) (.pair (.sl (.int .i64)) (.unit)))) plan1, .dv (.int .i64) odd2, .dv (.int .i64) way3] [] dec49 = m49 N n0 plan1 odd2 way3 := by rw [wm49]; simp only [m49, ql49a]
theorem ok49 (a : Int → (List (List Int × List Int × Unit)) → Int → Int → Option (List Int)) (h : ∀ n0 plan1 odd2 way3 r, a n0 plan1 odd2 way3 = some r → (∃ N, m49 N n0 plan1 odd2 way3 = some r)) : FnOk Try.prog 49 (F49 a) := by
  intro args Of x hx
  simp only [F49] at hx
  split at hx
  · rename_i n0 plan1 odd2 way3
    obtain ⟨N, hN⟩ := h _ _ _ _ _ hx
    refine lifted (L := []) (rc := nrc) (fz := nfz) (fn := Try.f49) (by kernel_rfl) (by kernel_rfl) (by kernel_rfl) (by kernel_rfl) rfl ?_ ((k49 N _ _ _ _).trans hN) ?_
    · intro p hp; cases hp
    · intro l o hd
      simp only [dec49] at hd
      split at hd
      · obtain rfl := Option.some.inj hd; exact ⟨rfl, rfl⟩
      · cases hd
  · cases hx
def E50c (a21 : (List Int) → (List Int) → Option (Bool)) (a39 : Int → (List (List Int × List Int × Unit)) → (List Int) → Option (List (List Int) × Int)) (a49 : Int → (List (List Int × List Int × Unit)) → Int → Int → Option (List Int)) : Env := mkE TI TY [(21, F21 a21), (39, F39 a39), (49, F49 a49)] nrc nfz
noncomputable def c50c : Code := bodyOf Try.f50
def nm50c_0 : Norm := ⟨[0, 1, 2, 4, 5, 7, 8, 9, 19, 20, 21], [9000, 9001, 9003, 9004, 9005, 9002], [], []⟩
def lv50c : Nat → Option Norm := norms [(3, nm50c_0)]
def en50c : End := ⟨[], ⟨[], [9000, 9001, 9002, 9003, 9004, 9005], [], []⟩⟩
def dec50c (l : List TV) (o : List (Nat × TO)) : Option (Int × List (List Int × List Int × Unit) × Bool × Int × List (List Int)) := match l, o with | [], [(9000, .rcd [.dv (.int .i64) x0]), (9001, .rcd [.dv (.sl (.pair (.sl (.int .i64)) (.pair (.sl (.int .i64)) (.unit)))) x1]), (9002, .rcd [.row 9005]), (9003, .rcd [.dv (.bool) x2]), (9004, .rcd [.dv (.int .i64) x3]), (9005, .row (.arr 2 (.int .i64)) x4)] => some (x0, x1, x2, x3, x4) | _, _ => none
noncomputable def K50c_0 (a21 : (List Int) → (List Int) → Option (Bool)) (a39 : Int → (List (List Int × List Int × Unit)) → (List Int) → Option (List (List Int) × Int)) (a49 : Int → (List (List Int × List Int × Unit)) → Int → Int → Option (List Int)) (N : Nat) : Kont (Int × List (List Int × List Int × Unit) × Bool × Int × List (List Int)) := kont (E50c a21 a39 a49) lv50c N c50c [1, 1, 0, 1, 0] (fin TI en50c (resOf Try.f50) dec50c)
noncomputable def R50c_0 (a21 : (List Int) → (List Int) → Option (Bool)) (a39 : Int → (List (List Int × List Int × Unit)) → (List Int) → Option (List (List Int) × Int)) (a49 : Int → (List (List Int × List Int × Unit)) → Int → Int → Option (List Int)) (N : Nat) (m : Nat) : TS → Option (Int × List (List Int × List Int × Unit) × Bool × Int × List (List Int)) := loopK (den (E50c a21 a39 a49) lv50c N (sub c50c [1, 1, 0, 1, 0, 0])) (TS.norm nm50c_0) (K50c_0 a21 a39 a49 N) m
def Sl50ca (l0 : List Int) (p1 : Int) (p2 : List (List Int × List Int × Unit)) (p4 : Int) (p5 : List (List Int)) (r1 : List (List Int) × Int) (k9_a : Int) (t21_a : Int) (o9003_af0 : Bool) : TS := ⟨slots 66 [(0, .dv (.sl (.int .i64)) l0), (1, .ptr 9000 0 [0]), (2, .ptr 9001 0 [0]), (4, .ptr 9003 0 [0]), (5, .ptr 9004 0 [0]), (7, .dv (.sl (.arr 2 (.int .i64))) r1.1), (8, .dv (.int .i64) r1.2), (9, .dv (.int .i64) k9_a), (19, .row 9005), (20, .dv (.int .i64) (p5.length : Int)), (21, .dv (.int .i64) t21_a)], [(9000, .rcd [.dv (.int .i64) p1]), (9001, .rcd [.dv (.sl (.pair (.sl (.int .i64)) (.pair (.sl (.int .i64)) (.unit)))) p2]), (9003, .rcd [.dv (.bool) o9003_af0]), (9004, .rcd [.dv (.int .i64) p4]), (9005, .row (.arr 2 (.int .i64)) p5), (9002, .rcd [.row 9005])]⟩
def l50ca (a21 : (List Int) → (List Int) → Option (Bool)) (a39 : Int → (List (List Int × List Int × Unit)) → (List Int) → Option (List (List Int) × Int)) (a49 : Int → (List (List Int × List Int × Unit)) → Int → Int → Option (List Int)) (N : Nat) (l0 : List Int) (p1 : Int) (p2 : List (List Int × List Int × Unit)) (p4 : Int) (p5 : List (List Int)) (r1 : List (List Int) × Int) : Nat → Int → Int → Bool → Option (Int × List (List Int × List Int × Unit) × Bool × Int × List (List Int))
  | 0, _, _, _ => none
  | n + 1, k9_a, t21_a, o9003_af0 => cond (decide (t21_a < (p5.length : Int))) (chk (decide (0 ≤ t21_a ∧ t21_a < (p5.length : Int))) ((a49 p1 p2 ((p5.getD t21_a.toNat ([(0 : Int), (0 : Int)] : List Int)).getD 0 (0 : Int)) ((p5.getD t21_a.toNat ([(0 : Int), (0 : Int)] : List Int)).getD 1 (0 : Int))).bind fun r2 =>
      (a21 r2 l0).bind fun r3 =>
      cond (r3) (cond (o9003_af0) (cond (decide (k9_a < (r1.1.length : Int))) (chk (decide (0 ≤ k9_a ∧ k9_a < (r1.1.length : Int))) ((l50ca a21 a39 a49 N l0 p1 p2 p4 p5 r1 n (w64 (k9_a + (1 : Int))) (w64 (t21_a + (1 : Int))) (DT.beq (.arr 2 (.int .i64)) (r1.1.getD k9_a.toNat ([(0 : Int), (0 : Int)] : List Int)) (p5.getD t21_a.toNat ([(0 : Int), (0 : Int)] : List Int))))))
      ((l50ca a21 a39 a49 N l0 p1 p2 p4 p5 r1 n (w64 (k9_a + (1 : Int))) (w64 (t21_a + (1 : Int))) false)))
      ((l50ca a21 a39 a49 N l0 p1 p2 p4 p5 r1 n (w64 (k9_a + (1 : Int))) (w64 (t21_a + (1 : Int))) false)))
      ((l50ca a21 a39 a49 N l0 p1 p2 p4 p5 r1 n k9_a (w64 (t21_a + (1 : Int))) o9003_af0))))
      (cond (o9003_af0) (cond (r1.2 == (0 : Int)) (some (p1, p2, k9_a == (r1.1.length : Int), w64 (p4 + k9_a), p5))
      (some (p1, p2, false, w64 (p4 + k9_a), p5)))
      (some (p1, p2, false, w64 (p4 + k9_a), p5)))
theorem wl50ca (a21 : (List Int) → (List Int) → Option (Bool)) (a39 : Int → (List (List Int × List Int × Unit)) → (List Int) → Option (List (List Int) × Int)) (a49 : Int → (List (List Int × List Int × Unit)) → Int → Int → Option (List Int)) (N : Nat) (l0 : List Int) (p1 : Int) (p2 : List (List Int × List Int × Unit)) (p4 : Int) (p5 : List (List Int)) (r1 : List (List Int) × Int) (m : Nat) (k9_a : Int) (t21_a : Int) (o9003_af0 : Bool) : R50c_0 a21 a39 a49 N (m + 1) (Sl50ca l0 p1 p2 p4 p5 r1 k9_a t21_a o9003_af0) = cond (decide (t21_a < (p5.length : Int))) (chk (decide (0 ≤ t21_a ∧ t21_a < (p5.length : Int))) ((a49 p1 p2 ((p5.getD t21_a.toNat ([(0 : Int), (0 : Int)] : List Int)).getD 0 (0 : Int)) ((p5.getD t21_a.toNat ([(0 : Int), (0 : Int)] : List Int)).getD 1 (0 : Int))).bind fun r2 =>
      (a21 r2 l0).bind fun r3 =>
      cond (r3) (cond (o9003_af0) (cond (decide (k9_a < (r1.1.length : Int))) (chk (decide (0 ≤ k9_a ∧ k9_a < (r1.1.length : Int))) ((R50c_0 a21 a39 a49 N m (Sl50ca l0 p1 p2 p4 p5 r1 (w64 (k9_a + (1 : Int))) (w64 (t21_a + (1 : Int))) (DT.beq (.arr 2 (.int .i64)) (r1.1.getD k9_a.toNat ([(0 : Int), (0 : Int)] : List Int)) (p5.getD t21_a.toNat ([(0 : Int), (0 : Int)] : List Int)))))))
      ((R50c_0 a21 a39 a49 N m (Sl50ca l0 p1 p2 p4 p5 r1 (w64 (k9_a + (1 : Int))) (w64 (t21_a + (1 : Int))) false))))
      ((R50c_0 a21 a39 a49 N m (Sl50ca l0 p1 p2 p4 p5 r1 (w64 (k9_a + (1 : Int))) (w64 (t21_a + (1 : Int))) false))))
      ((R50c_0 a21 a39 a49 N m (Sl50ca l0 p1 p2 p4 p5 r1 k9_a (w64 (t21_a + (1 : Int))) o9003_af0)))))
      (cond (o9003_af0) (cond (r1.2 == (0 : Int)) (some (p1, p2, k9_a == (r1.1.length : Int), w64 (p4 + k9_a), p5))
      (some (p1, p2, false, w64 (p4 + k9_a), p5)))
      (some (p1, p2, false, w64 (p4 + k9_a), p5))) := by kernel_rfl
theorem ql50ca (a21 : (List Int) → (List Int) → Option (Bool)) (a39 : Int → (List (List Int × List Int × Unit)) → (List Int) → Option (List (List Int) × Int)) (a49 : Int → (List (List Int × List Int × Unit)) → Int → Int → Option (List Int)) (N : Nat) (l0 : List Int) (p1 : Int) (p2 : List (List Int × List Int × Unit)) (p4 : Int) (p5 : List (List Int)) (r1 : List (List Int) × Int) : ∀ (m : Nat) (k9_a : Int) (t21_a : Int) (o9003_af0 : Bool), R50c_0 a21 a39 a49 N m (Sl50ca l0 p1 p2 p4 p5 r1 k9_a t21_a o9003_af0) = l50ca a21 a39 a49 N l0 p1 p2 p4 p5 r1 m k9_a t21_a o9003_af0
        | 0, _, _, _ => rfl
        | m + 1, k9_a, t21_a, o9003_af0 => by rw [wl50ca]; simp only [l50ca, ql50ca a21 a39 a49 N l0 p1 p2 p4 p5 r1 m]
def m50c (a21 : (List Int) → (List Int) → Option (Bool)) (a39 : Int → (List (List Int × List Int × Unit)) → (List Int) → Option (List (List Int) × Int)) (a49 : Int → (List (List Int × List Int × Unit)) → Int → Int → Option (List Int)) (N : Nat) (l0 : List Int) (p1 : Int) (p2 : List (List Int × List Int × Unit)) (p3 : Bool) (p4 : Int) (p5 : List (List Int)) : Option (Int × List (List Int × List Int × Unit) × Bool × Int × List (List Int)) :=
      (a39 p1 p2 l0).bind fun r1 =>
      (l50ca a21 a39 a49 N l0 p1 p2 p4 p5 r1 N (0 : Int) (0 : Int) p3)
theorem wm50c (a21 : (List Int) → (List Int) → Option (Bool)) (a39 : Int → (List (List Int × List Int × Unit)) → (List Int) → Option (List (List Int) × Int)) (a49 : Int → (List (List Int × List Int × Unit)) → Int → Int → Option (List Int)) (N : Nat) (l0 : List Int) (p1 : Int) (p2 : List (List Int × List Int × Unit)) (p3 : Bool) (p4 : Int) (p5 : List (List Int)) : callF (E50c a21 a39 a49) lv50c N en50c c50c (resOf Try.f50) 60 [.dv (.sl (.int .i64)) l0, .ptr 9000 0 [0], .ptr 9001 0 [0], .ptr 9002 0 [0], .ptr 9003 0 [0], .ptr 9004 0 [0]] [(9000, .rcd [.dv (.int .i64) p1]), (9001, .rcd [.dv (.sl (.pair (.sl (.int .i64)) (.pair (.sl (.int .i64)) (.unit)))) p2]), (9002, .rcd [.row 9005]), (9003, .rcd [.dv (.bool) p3]), (9004, .rcd [.dv (.int .i64) p4]), (9005, .row (.arr 2 (.int .i64)) p5)] dec50c = (a39 p1 p2 l0).bind fun r1 =>
      (R50c_0 a21 a39 a49 N N (Sl50ca l0 p1 p2 p4 p5 r1 (0 : Int) (0 : Int) p3)) := by kernel_rfl
theorem k50c (a21 : (List Int) → (List Int) → Option (Bool)) (a39 : Int → (List (List Int × List Int × Unit)) → (List Int) → Option (List (List Int) × Int)) (a49 : Int → (List (List Int × List Int × Unit)) → Int → Int → Option (List Int)) (N : Nat) (l0 : List Int) (p1 : Int) (p2 : List (List Int × List Int × Unit)) (p3 : Bool) (p4 : Int) (p5 : List (List Int)) : callF (E50c a21 a39 a49) lv50c N en50c c50c (resOf Try.f50) 60 [.dv (.sl (.int .i64)) l0, .ptr 9000 0 [0], .ptr 9001 0 [0], .ptr 9002 0 [0], .ptr 9003 0 [0], .ptr 9004 0 [0]] [(9000, .rcd [.dv (.int .i64) p1]), (9001, .rcd [.dv (.sl (.pair (.sl (.int .i64)) (.pair (.sl (.int .i64)) (.unit)))) p2]), (9002, .rcd [.row 9005]), (9003, .rcd [.dv (.bool) p3]), (9004, .rcd [.dv (.int .i64) p4]), (9005, .row (.arr 2 (.int .i64)) p5)] dec50c = m50c a21 a39 a49 N l0 p1 p2 p3 p4 p5 := by rw [wm50c]; simp only [m50c, ql50ca]
theorem ok50c (a21 : (List Int) → (List Int) → Option (Bool)) (a39 : Int → (List (List Int × List Int × Unit)) → (List Int) → Option (List (List Int) × Int)) (a49 : Int → (List (List Int × List Int × Unit)) → Int → Int → Option (List Int)) (h21 : FnOk Try.prog 21 (F21 a21)) (h39 : FnOk Try.prog 39 (F39 a39)) (h49 : FnOk Try.prog 49 (F49 a49)) (a : (List Int) → Int → (List (List Int × List Int × Unit)) → Bool → Int → (List (List Int)) → Option (Int × List (List Int × List Int × Unit) × Bool × Int × List (List Int))) (h : ∀ l0 p1 p2 p3 p4 p5 r, a l0 p1 p2 p3 p4 p5 = some r → (∃ N, m50c a21 a39 a49 N l0 p1 p2 p3 p4 p5 = some r)) : FnOk Try.prog 50 (F50c a) := by
  intro args Of x hx
  simp only [F50c] at hx
  split at hx
  · rename_i l0 p1 p2 p3 p4 p5
    obtain ⟨N, hN⟩ := h _ _ _ _ _ _ _ hx
    refine lifted (L := [(21, F21 a21), (39, F39 a39), (49, F49 a49)]) (rc := nrc) (fz := nfz) (fn := Try.f50) (by kernel_rfl) (by kernel_rfl) (by kernel_rfl) (by kernel_rfl) rfl ?_ ((k50c a21 a39 a49 N _ _ _ _ _ _).trans hN) ?_
    · intro p hp; simp only [List.mem_cons, List.not_mem_nil, or_false] at hp; rcases hp with rfl | rfl | rfl
      · exact h21
      · exact h39
      · exact h49
    · intro l o hd
      simp only [dec50c] at hd
      split at hd
      · obtain rfl := Option.some.inj hd; exact ⟨rfl, rfl⟩
      · cases hd
  · cases hx
def E44c50 (a44c50 : Int → (List Int) → Int → (List (List Int × List Int × Unit)) → Bool → Int → (List (List Int)) → Option (Int × List (List Int × List Int × Unit) × Bool × Int × List (List Int))) (a50c : (List Int) → Int → (List (List Int × List Int × Unit)) → Bool → Int → (List (List Int)) → Option (Int × List (List Int × List Int × Unit) × Bool × Int × List (List Int))) (a51 : (List Int) → Option (List Int)) : Env := mkE TI TY [(44, F44c50 a44c50), (50, F50c a50c), (51, F51 a51)] nrc nfz
noncomputable def c44c50 : Code := bodyOf Try.f44
def nm44c50_0 : Norm := ⟨[0, 1, 2, 14, 15, 16], [9000, 9001, 9002, 9003, 9004, 9005], [], []⟩
def lv44c50 : Nat → Option Norm := norms [(3, nm44c50_0)]
def en44c50 : End := ⟨[], ⟨[], [9000, 9001, 9002, 9003, 9004, 9005], [], []⟩⟩
def dec44c50 (l : List TV) (o : List (Nat × TO)) : Option (Int × List (List Int × List Int × Unit) × Bool × Int × List (List Int)) := match l, o with | [], [(9000, .rcd [.dv (.int .i64) x0]), (9001, .rcd [.dv (.sl (.pair (.sl (.int .i64)) (.pair (.sl (.int .i64)) (.unit)))) x1]), (9002, .rcd [.row 9005]), (9003, .rcd [.dv (.bool) x2]), (9004, .rcd [.dv (.int .i64) x3]), (9005, .row (.arr 2 (.int .i64)) x4)] => some (x0, x1, x2, x3, x4) | _, _ => none
noncomputable def K44c50_0 (a44c50 : Int → (List Int) → Int → (List (List Int × List Int × Unit)) → Bool → Int → (List (List Int)) → Option (Int × List (List Int × List Int × Unit) × Bool × Int × List (List Int))) (a50c : (List Int) → Int → (List (List Int × List Int × Unit)) → Bool → Int → (List (List Int)) → Option (Int × List (List Int × List Int × Unit) × Bool × Int × List (List Int))) (a51 : (List Int) → Option (List Int)) (N : Nat) : Kont (Int × List (List Int × List Int × Unit) × Bool × Int × List (List Int)) := kont (E44c50 a44c50 a50c a51) lv44c50 N c44c50 [1, 1, 0] (fin TI en44c50 (resOf Try.f44) dec44c50)
noncomputable def R44c50_0 (a44c50 : Int → (List Int) → Int → (List (List Int × List Int × Unit)) → Bool → Int → (List (List Int)) → Option (Int × List (List Int × List Int × Unit) × Bool × Int × List (List Int))) (a50c : (List Int) → Int → (List (List Int × List Int × Unit)) → Bool → Int → (List (List Int)) → Option (Int × List (List Int × List Int × Unit) × Bool × Int × List (List Int))) (a51 : (List Int) → Option (List Int)) (N : Nat) (m : Nat) : TS → Option (Int × List (List Int × List Int × Unit) × Bool × Int × List (List Int)) := loopK (den (E44c50 a44c50 a50c a51) lv44c50 N (sub c44c50 [1, 1, 0, 0])) (TS.norm nm44c50_0) (K44c50_0 a44c50 a50c a51 N) m
def Sl44c50a (n0 : Int) (l1 : List Int) (r2 : List Int) (t16_a : Int) (o9000_af0 : Int) (o9001_af0 : List (List Int × List Int × Unit)) (o9003_af0 : Bool) (o9004_af0 : Int) (o9005_a : List (List Int)) : TS := ⟨slots 31 [(0, .dv (.int .i64) n0), (1, .dv (.sl (.int .i64)) l1), (2, .fn 50 0 5 fun i => ([.ptr 9000 0 [0], .ptr 9001 0 [0], .ptr 9002 0 [0], .ptr 9003 0 [0], .ptr 9004 0 [0]] : List TV).getD i .any), (14, .dv (.sl (.int .i64)) r2), (15, .dv (.int .i64) (r2.length : Int)), (16, .dv (.int .i64) t16_a)], [(9000, .rcd [.dv (.int .i64) o9000_af0]), (9001, .rcd [.dv (.sl (.pair (.sl (.int .i64)) (.pair (.sl (.int .i64)) (.unit)))) o9001_af0]), (9002, .rcd [.row 9005]), (9003, .rcd [.dv (.bool) o9003_af0]), (9004, .rcd [.dv (.int .i64) o9004_af0]), (9005, .row (.arr 2 (.int .i64)) o9005_a)]⟩
def l44c50a (a44c50 : Int → (List Int) → Int → (List (List Int × List Int × Unit)) → Bool → Int → (List (List Int)) → Option (Int × List (List Int × List Int × Unit) × Bool × Int × List (List Int))) (a50c : (List Int) → Int → (List (List Int × List Int × Unit)) → Bool → Int → (List (List Int)) → Option (Int × List (List Int × List Int × Unit) × Bool × Int × List (List Int))) (a51 : (List Int) → Option (List Int)) (N : Nat) (n0 : Int) (l1 : List Int) (r2 : List Int) : Nat → Int → Int → (List (List Int × List Int × Unit)) → Bool → Int → (List (List Int)) → Option (Int × List (List Int × List Int × Unit) × Bool × Int × List (List Int))
  | 0, _, _, _, _, _, _ => none
  | n + 1, t16_a, o9000_af0, o9001_af0, o9003_af0, o9004_af0, o9005_a => cond (decide (t16_a < (r2.length : Int))) (chk (decide (0 ≤ t16_a ∧ t16_a < (r2.length : Int))) (chk (small (0 + l1.length) 8) (chk (small ((([] : List Int) ++ l1).length + 1) 8) ((a44c50 (w64 (n0 - (1 : Int))) ((([] : List Int) ++ l1) ++ ([r2.getD t16_a.toNat (0 : Int)] : List Int)) o9000_af0 o9001_af0 o9003_af0 o9004_af0 o9005_a).bind fun r3 =>
      (l44c50a a44c50 a50c a51 N n0 l1 r2 n (w64 (t16_a + (1 : Int))) r3.1 r3.2.1 r3.2.2.1 r3.2.2.2.1 r3.2.2.2.2)))))
      (some (o9000_af0, o9001_af0, o9003_af0, o9004_af0, o9005_a))
theorem wl44c50a (a44c50 : Int → (List Int) → Int → (List (List Int × List Int × Unit)) → Bool → Int → (List (List Int)) → Option (Int × List (List Int × List Int × Unit) × Bool × Int × List (List Int))) (a50c : (List Int) → Int → (List (List Int × List Int × Unit)) → Bool → Int → (List (List Int)) → Option (Int × List (List Int × List Int × Unit) × Bool × Int × List (List Int))) (a51 : (List Int) → Option (List Int)) (N : Nat) (n0 : Int) (l1 : List Int) (r2 : List Int) (m : Nat) (t16_a : Int) (o9000_af0 : Int) (o9001_af0 : List (List Int × List Int × Unit)) (o9003_af0 : Bool) (o9004_af0 : Int) (o9005_a : List (List Int)) : R44c50_0 a44c50 a50c a51 N (m + 1) (Sl44c50a n0 l1 r2 t16_a o9000_af0 o9001_af0 o9003_af0 o9004_af0 o9005_a) = cond (decide (t16_a < (r2.length : Int))) (chk (decide (0 ≤ t16_a ∧ t16_a < (r2.length : Int))) (chk (small (0 + l1.length) 8) (chk (small ((([] : List Int) ++ l1).length + 1) 8) ((a44c50 (w64 (n0 - (1 : Int))) ((([] : List Int) ++ l1) ++ ([r2.getD t16_a.toNat (0 : Int)] : List Int)) o9000_af0 o9001_af0 o9003_af0 o9004_af0 o9005_a).bind fun r3 =>
      (R44c50_0 a44c50 a50c a51 N m (Sl44c50a n0 l1 r2 (w64 (t16_a + (1 : Int))) r3.1 r3.2.1 r3.2.2.1 r3.2.2.2.1 r3.2.2.2.2))))))
      (some (o9000_af0, o9001_af0, o9003_af0, o9004_af0, o9005_a)) := by kernel_rfl
theorem ql44c50a (a44c50 : Int → (List Int) → Int → (List (List Int × List Int × Unit)) → Bool → Int → (List (List Int)) → Option (Int × List (List Int × List Int × Unit) × Bool × Int × List (List Int))) (a50c : (List Int) → Int → (List (List Int × List Int × Unit)) → Bool → Int → (List (List Int)) → Option (Int × List (List Int × List Int × Unit) × Bool × Int × List (List Int))) (a51 : (List Int) → Option (List Int)) (N : Nat) (n0 : Int) (l1 : List Int) (r2 : List Int) : ∀ (m : Nat) (t16_a : Int) (o9000_af0 : Int) (o9001_af0 : List (List Int × List Int × Unit)) (o9003_af0 : Bool) (o9004_af0 : Int) (o9005_a : List (List Int)), R44c50_0 a44c50 a50c a51 N m (Sl44c50a n0 l1 r2 t16_a o9000_af0 o9001_af0 o9003_af0 o9004_af0 o9005_a) = l44c50a a44c50 a50c a51 N n0 l1 r2 m t16_a o9000_af0 o9001_af0 o9003_af0 o9004_af0 o9005_a
        | 0, _, _, _, _, _, _ => rfl
        | m + 1, t16_a, o9000_af0, o9001_af0, o9003_af0, o9004_af0, o9005_a => by rw [wl44c50a]; simp only [l44c50a, ql44c50a a44c50 a50c a51 N n0 l1 r2 m]
def m44c50 (a44c50 : Int → (List Int) → Int → (List (List Int × List Int × Unit)) → Bool → Int → (List (List Int)) → Option (Int × List (List Int × List Int × Unit) × Bool × Int × List (List Int))) (a50c : (List Int) → Int → (List (List Int × List Int × Unit)) → Bool → Int → (List (List Int)) → Option (Int × List (List Int × List Int × Unit) × Bool × Int × List (List Int))) (a51 : (List Int) → Option (List Int)) (N : Nat) (n0 : Int) (l1 : List Int) (p2 : Int) (p3 : List (List Int × List Int × Unit)) (p4 : Bool) (p5 : Int) (p6 : List (List Int)) : Option (Int × List (List Int × List Int × Unit) × Bool × Int × List (List Int)) :=
      cond (n0 == (0 : Int)) ((a50c l1 p2 p3 p4 p5 p6).bind fun r1 =>
      some (r1.1, r1.2.1, r1.2.2.1, r1.2.2.2.1, r1.2.2.2.2))
      ((a51 ([(1 : Int), (0 : Int), (-1 : Int)] : List Int)).bind fun r2 =>
      (l44c50a a44c50 a50c a51 N n0 l1 r2 N (0 : Int) p2 p3 p4 p5 p6))
theorem wm44c50 (a44c50 : Int → (List Int) → Int → (List (List Int × List Int × Unit)) → Bool → Int → (List (List Int)) → Option (Int × List (List Int × List Int × Unit) × Bool × Int × List (List Int))) (a50c : (List Int) → Int → (List (List Int × List Int × Unit)) → Bool → Int → (List (List Int)) → Option (Int × List (List Int × List Int × Unit) × Bool × Int × List (List Int))) (a51 : (List Int) → Option (List Int)) (N : Nat) (n0 : Int) (l1 : List Int) (p2 : Int) (p3 : List (List Int × List Int × Unit)) (p4 : Bool) (p5 : Int) (p6 : List (List Int)) : callF (E44c50 a44c50 a50c a51) lv44c50 N en44c50 c44c50 (resOf Try.f44) 28 [.dv (.int .i64) n0, .dv (.sl (.int .i64)) l1, .fn 50 0 5 fun i => ([.ptr 9000 0 [0], .ptr 9001 0 [0], .ptr 9002 0 [0], .ptr 9003 0 [0], .ptr 9004 0 [0]] : List TV).getD i .any] [(9000, .rcd [.dv (.int .i64) p2]), (9001, .rcd [.dv (.sl (.pair (.sl (.int .i64)) (.pair (.sl (.int .i64)) (.unit)))) p3]), (9002, .rcd [.row 9005]), (9003, .rcd [.dv (.bool) p4]), (9004, .rcd [.dv (.int .i64) p5]), (9005, .row (.arr 2 (.int .i64)) p6)] dec44c50 = cond (n0 == (0 : Int)) ((a50c l1 p2 p3 p4 p5 p6).bind fun r1 =>
      some (r1.1, r1.2.1, r1.2.2.1, r1.2.2.2.1, r1.2.2.2.2))
      ((a51 ([(1 : Int), (0 : Int), (-1 : Int)] : List Int)).bind fun r2 =>
      (R44c50_0 a44c50 a50c a51 N N (Sl44c50a n0 l1 r2 (0 : Int) p2 p3 p4 p5 p6))) := by kernel_rfl
theorem k44c50 (a44c50 : Int → (List Int) → Int → (List (List Int × List Int × Unit)) → Bool → Int → (List (List Int)) → Option (Int × List (List Int × List Int × Unit) × Bool × Int × List (List Int))) (a50c : (List Int) → Int → (List (List Int × List Int × Unit)) → Bool → Int → (List (List Int)) → Option (Int × List (List Int × List Int × Unit) × Bool × Int × List (List Int))) (a51 : (List Int) → Option (List Int)) (N : Nat) (n0 : Int) (l1 : List Int) (p2 : Int) (p3 : List (List Int × List Int × Unit)) (p4 : Bool) (p5 : Int) (p6 : List (List Int)) : callF (E44c50 a44c50 a50c a51) lv44c50 N en44c50 c44c50 (resOf Try.f44) 28 [.dv (.int .i64) n0, .dv (.sl (.int .i64)) l1, .fn 50 0 5 fun i => ([.ptr 9000 0 [0], .ptr 9001 0 [0], .ptr 9002 0 [0], .ptr 9003 0 [0], .ptr 9004 0 [0]] : List TV).getD i .any] [(9000, .rcd [.dv (.int .i64) p2]), (9001, .rcd [.dv (.sl (.pair (.sl (.int .i64)) (.pair (.sl (.int .i64)) (.unit)))) p3]), (9002, .rcd [.row 9005]), (9003, .rcd [.dv (.bool) p4]), (9004, .rcd [.dv (.int .i64) p5]), (9005, .row (.arr 2 (.int .i64)) p6)] dec44c50 = m44c50 a44c50 a50c a51 N n0 l1 p2 p3 p4 p5 p6 := by rw [wm44c50]; simp only [m44c50, ql44c50a]
theorem ok44c50 (a44c50 : Int → (List Int) → Int → (List (List Int × List Int × Unit)) → Bool → Int → (List (List Int)) → Option (Int × List (List Int × List Int × Unit) × Bool × Int × List (List Int))) (a50c : (List Int) → Int → (List (List Int × List Int × Unit)) → Bool → Int → (List (List Int)) → Option (Int × List (List Int × List Int × Unit) × Bool × Int × List (List Int))) (a51 : (List Int) → Option (List Int)) (h44c50 : FnOk Try.prog 44 (F44c50 a44c50)) (h50c : FnOk Try.prog 50 (F50c a50c)) (h51 : FnOk Try.prog 51 (F51 a51)) (a : Int → (List Int) → Int → (List (List Int × List Int × Unit)) → Bool → Int → (List (List Int)) → Option (Int × List (List Int × List Int × Unit) × Bool × Int × List (List Int))) (h : ∀ n0 l1 p2 p3 p4 p5 p6 r, a n0 l1 p2 p3 p4 p5 p6 = some r → (∃ N, m44c50 a44c50 a50c a51 N n0 l1 p2 p3 p4 p5 p6 = some r)) : FnOk Try.prog 44 (F44c50 a) := by
  intro args Of x hx
  simp only [F44c50] at hx
  split at hx
  · rename_i n0 l1 f_0 p2 p3 p4 p5 p6 heqc
    have hc0 := congrArg (fun c : List (List TV) => c.getD 0 []) heqc
    obtain ⟨N, hN⟩ := h _ _ _ _ _ _ _ _ hx
    refine HSpec.etaL (args := [.dv (.int .i64) n0, .dv (.sl (.int .i64)) l1, .fn 50 0 5 fun i => ([.ptr 9000 0 [0], .ptr 9001 0 [0], .ptr 9002 0 [0], .ptr 9003 0 [0], .ptr 9004 0 [0]] : List TV).getD i .any]) (O := [(9000, .rcd [.dv (.int .i64) p2]), (9001, .rcd [.dv (.sl (.pair (.sl (.int .i64)) (.pair (.sl (.int .i64)) (.unit)))) p3]), (9002, .rcd [.row 9005]), (9003, .rcd [.dv (.bool) p4]), (9004, .rcd [.dv (.int .i64) p5]), (9005, .row (.arr 2 (.int .i64)) p6)]) ⟨TV.sim_refl _, TV.sim_refl _, TV.sim_fn hc0, trivial⟩ ⟨rfl, TO.sim_refl _, rfl, TO.sim_refl _, rfl, TO.sim_refl _, rfl, TO.sim_refl _, rfl, TO.sim_refl _, rfl, TO.sim_refl _, trivial⟩ (lifted (L := [(44, F44c50 a44c50), (50, F50c a50c), (51, F51 a51)]) (rc := nrc) (fz := nfz) (fn := Try.f44) (by kernel_rfl) (by kernel_rfl) (by kernel_rfl) (by kernel_rfl) rfl ?_ ((k44c50 a44c50 a50c a51 N _ _ _ _ _ _ _).trans hN) ?_)
    · intro p hp; simp only [List.mem_cons, List.not_mem_nil, or_false] at hp; rcases hp with rfl | rfl | rfl
      · exact h44c50
      · exact h50c
      · exact h51
    · intro l o hd
      simp only [dec44c50] at hd
      split at hd
      · obtain rfl := Option.some.inj hd; exact ⟨rfl, rfl⟩
      · cases hd
  · cases hx
def E48 (a51 : (List Int) → Option (List Int)) : Env := mkE TI TY [(51, F51 a51)] (fun i => ([(7, [none, none])] : List (Nat × List (Option DT))).lookup i) nfz
noncomputable def c48 : Code := bodyOf Try.f48
def nm48_0 : Norm := ⟨[1, 4, 6], [1], [(.slot 5, 1005, .pair (.sl (.int .i64)) (.pair (.sl (.int .i64)) (.unit)))], []⟩
def nm48_1 : Norm := ⟨[1, 4, 5, 6, 7, 26, 27], [1, 1005, 7], [(.fld 7 0, 2100, .int .i64), (.fld 7 1, 2101, .int .i64)], []⟩
def lv48 : Nat → Option Norm := norms [(4, nm48_0), (8, nm48_1)]
def en48 : End := ⟨[(91, .sl (.pair (.sl (.int .i64)) (.pair (.sl (.int .i64)) (.unit))))], ⟨[90, 91], [], [], []⟩⟩
def dec48 (l : List TV) (o : List (Nat × TO)) : Option (Int × List (List Int × List Int × Unit)) := match l, o with | [.dv (.int .i64) x0, .dv (.sl (.pair (.sl (.int .i64)) (.pair (.sl (.int .i64)) (.unit)))) x1], [] => some (x0, x1) | _, _ => none
noncomputable def K48_0 (a51 : (List Int) → Option (List Int)) (N : Nat) : Kont (Int × List (List Int × List Int × Unit)) := kont (E48 a51) lv48 N c48 [1, 1, 1, 0, 1, 0] (fin TI en48 (resOf Try.f48) dec48)
noncomputable def R48_0 (a51 : (List Int) → Option (List Int)) (N : Nat) (m : Nat) : TS → Option (Int × List (List Int × List Int × Unit)) := loopK (den (E48 a51) lv48 N (sub c48 [1, 1, 1, 0, 1, 0, 0])) (TS.norm nm48_0) (K48_0 a51 N) m
noncomputable def K48_1 (a51 : (List Int) → Option (List Int)) (N : Nat) (T48_0 : TS → Option (Int × List (List Int × List Int × Unit))) : Kont (Int × List (List Int × List Int × Unit)) := kont (E48 a51) lv48 N (sub c48 [1, 1, 1, 0, 1, 0, 0]) [1, 0, 0, 1, 0, 1, 0] (kloop (TS.norm nm48_0) (K48_0 a51 N) T48_0)
noncomputable def R48_1 (a51 : (List Int) → Option (List Int)) (N : Nat) (T48_0 : TS → Option (Int × List (List Int × List Int × Unit))) (m : Nat) : TS → Option (Int × List (List Int × List Int × Unit)) := loopK (den (E48 a51) lv48 N (sub c48 [1, 1, 1, 0, 1, 0, 0, 1, 0, 0, 1, 0, 1, 0, 0])) (TS.norm nm48_1) (K48_1 a51 N T48_0) m
def Sl48b (b0 : Int × List (List Int) × Unit) (i6_a : Int) (plan5_a : List (List Int × List Int × Unit)) (t27_b : Int) (o2100_b : List Int) (o2101_b : List Int) : TS := ⟨slots 90 [(1, .ptr 1 0 []), (4, .dv (.int .i64) (w64 ((3 : Int) + (Int.tmod (w64 (b0.1)) (7 : Int))))), (5, .row 1005), (6, .dv (.int .i64) i6_a), (7, .ptr 7 0 []), (26, .dv (.int .i64) (w64 ((3 : Int) + (Int.tmod (w64 (b0.1)) (7 : Int))))), (27, .dv (.int .i64) t27_b)], [(2100, .row (.int .i64) o2100_b), (2101, .row (.int .i64) o2101_b), (1, .row (.pair (.int .u8) (.pair (.sl (.arr 9 (.int .u8))) (.unit))) ([b0] : List (Int × List (List Int) × Unit))), (1005, .row (.pair (.sl (.int .i64)) (.pair (.sl (.int .i64)) (.unit))) plan5_a), (7, .rcd [.row 2100, .row 2101])]⟩
def Sl48a (b0 : Int × List (List Int) × Unit) (i6_a : Int) (plan5_a : List (List Int × List Int × Unit)) : TS := ⟨slots 90 [(1, .ptr 1 0 []), (4, .dv (.int .i64) (w64 ((3 : Int) + (Int.tmod (w64 (b0.1)) (7 : Int))))), (5, .row 1005), (6, .dv (.int .i64) i6_a)], [(1005, .row (.pair (.sl (.int .i64)) (.pair (.sl (.int .i64)) (.unit))) plan5_a), (1, .row (.pair (.int .u8) (.pair (.sl (.arr 9 (.int .u8))) (.unit))) ([b0] : List (Int × List (List Int) × Unit)))]⟩
def l48b (a51 : (List Int) → Option (List Int)) (N : Nat) (b0 : Int × List (List Int) × Unit) (i6_a : Int) (plan5_a : List (List Int × List Int × Unit)) (rec_l48a : Int → (List (List Int × List Int × Unit)) → Option (Int × List (List Int × List Int × Unit))) : Nat → Int → (List Int) → (List Int) → Option (Int × List (List Int × List Int × Unit))
  | 0, _, _, _ => none
  | n + 1, t27_b, o2100_b, o2101_b => cond (decide (t27_b < (w64 ((3 : Int) + (Int.tmod (w64 (b0.1)) (7 : Int)))))) (chk (decide (0 ≤ i6_a ∧ i6_a < (b0.2.1.length : Int))) (chk (decide (0 ≤ t27_b ∧ t27_b < (9 : Int))) (cond ((Int.tmod ((b0.2.1.getD i6_a.toNat ([(0 : Int), (0 : Int), (0 : Int), (0 : Int), (0 : Int), (0 : Int), (0 : Int), (0 : Int), (0 : Int)] : List Int)).getD t27_b.toNat (0 : Int)) (3 : Int)) == (1 : Int)) (chk (small (o2100_b.length + 1) 8) ((l48b a51 N b0 i6_a plan5_a rec_l48a n (w64 (t27_b + (1 : Int))) (o2100_b ++ ([t27_b] : List Int)) o2101_b)))
      (cond ((Int.tmod ((b0.2.1.getD i6_a.toNat ([(0 : Int), (0 : Int), (0 : Int), (0 : Int), (0 : Int), (0 : Int), (0 : Int), (0 : Int), (0 : Int)] : List Int)).getD t27_b.toNat (0 : Int)) (3 : Int)) == (2 : Int)) (chk (small (o2101_b.length + 1) 8) ((l48b a51 N b0 i6_a plan5_a rec_l48a n (w64 (t27_b + (1 : Int))) o2100_b (o2101_b ++ ([t27_b] : List Int)))))
      ((l48b a51 N b0 i6_a plan5_a rec_l48a n (w64 (t27_b + (1 : Int))) o2100_b o2101_b))))))
      (cond ((imin (o2100_b.length : Int) (o2101_b.length : Int)) == (0 : Int)) (chk (decide (w64 ((3 : Int) + (Int.tmod (w64 (b0.1)) (7 : Int))) ≠ (0 : Int))) ((a51 ([Int.tmod i6_a (w64 ((3 : Int) + (Int.tmod (w64 (b0.1)) (7 : Int))))] : List Int)).bind fun r1 =>
      chk (decide (w64 ((3 : Int) + (Int.tmod (w64 (b0.1)) (7 : Int))) ≠ (0 : Int))) ((a51 ([Int.tmod (w64 (i6_a + (1 : Int))) (w64 ((3 : Int) + (Int.tmod (w64 (b0.1)) (7 : Int))))] : List Int)).bind fun r2 =>
      chk (decide (0 ≤ (1 : Int) ∧ (1 : Int) ≤ (r1.length : Int))) (chk (decide (0 ≤ (1 : Int) ∧ (1 : Int) ≤ (r2.length : Int))) (chk (small (plan5_a.length + 1) 48) ((rec_l48a (w64 (i6_a + (1 : Int))) (plan5_a ++ ([(r1.take 1, (r2.take 1, ()))] : List (List Int × List Int × Unit))))))))))
      (chk (decide (0 ≤ imin (o2100_b.length : Int) (o2101_b.length : Int) ∧ imin (o2100_b.length : Int) (o2101_b.length : Int) ≤ (o2100_b.length : Int))) (chk (decide (0 ≤ imin (o2100_b.length : Int) (o2101_b.length : Int) ∧ imin (o2100_b.length : Int) (o2101_b.length : Int) ≤ (o2101_b.length : Int))) (chk (small (plan5_a.length + 1) 48) ((rec_l48a (w64 (i6_a + (1 : Int))) (plan5_a ++ ([((o2100_b.take ((imin (o2100_b.length : Int) (o2101_b.length : Int)).toNat)).drop 0, ((o2101_b.take ((imin (o2100_b.length : Int) (o2101_b.length : Int)).toNat)).drop 0, ()))] : List (List Int × List Int × Unit)))))))))
theorem wl48b (a51 : (List Int) → Option (List Int)) (N : Nat) (b0 : Int × List (List Int) × Unit) (i6_a : Int) (plan5_a : List (List Int × List Int × Unit)) (T48_0 : TS → Option (Int × List (List Int × List Int × Unit))) (m : Nat) (t27_b : Int) (o2100_b : List Int) (o2101_b : List Int) : R48_1 a51 N T48_0 (m + 1) (Sl48b b0 i6_a plan5_a t27_b o2100_b o2101_b) = cond (decide (t27_b < (w64 ((3 : Int) + (Int.tmod (w64 (b0.1)) (7 : Int)))))) (chk (decide (0 ≤ i6_a ∧ i6_a < (b0.2.1.length : Int))) (chk (decide (0 ≤ t27_b ∧ t27_b < (9 : Int))) (cond ((Int.tmod ((b0.2.1.getD i6_a.toNat ([(0 : Int), (0 : Int), (0 : Int), (0 : Int), (0 : Int), (0 : Int), (0 : Int), (0 : Int), (0 : Int)] : List Int)).getD t27_b.toNat (0 : Int)) (3 : Int)) == (1 : Int)) (chk (small (o2100_b.length + 1) 8) ((R48_1 a51 N T48_0 m (Sl48b b0 i6_a plan5_a (w64 (t27_b + (1 : Int))) (o2100_b ++ ([t27_b] : List Int)) o2101_b))))
      (cond ((Int.tmod ((b0.2.1.getD i6_a.toNat ([(0 : Int), (0 : Int), (0 : Int), (0 : Int), (0 : Int), (0 : Int), (0 : Int), (0 : Int), (0 : Int)] : List Int)).getD t27_b.toNat (0 : Int)) (3 : Int)) == (2 : Int)) (chk (small (o2101_b.length + 1) 8) ((R48_1 a51 N T48_0 m (Sl48b b0 i6_a plan5_a (w64 (t27_b + (1 : Int))) o2100_b (o2101_b ++ ([t27_b] : List Int))))))
      ((R48_1 a51 N T48_0 m (Sl48b b0 i6_a plan5_a (w64 (t27_b + (1 : Int))) o2100_b o2101_b)))))))
      (cond ((imin (o2100_b.length : Int) (o2101_b.length : Int)) == (0 : Int)) (chk (decide (w64 ((3 : Int) + (Int.tmod (w64 (b0.1)) (7 : Int))) ≠ (0 : Int))) ((a51 ([Int.tmod i6_a (w64 ((3 : Int) + (Int.tmod (w64 (b0.1)) (7 : Int))))] : List Int)).bind fun r1 =>
      chk (decide (w64 ((3 : Int) + (Int.tmod (w64 (b0.1)) (7 : Int))) ≠ (0 : Int))) ((a51 ([Int.tmod (w64 (i6_a + (1 : Int))) (w64 ((3 : Int) + (Int.tmod (w64 (b0.1)) (7 : Int))))] : List Int)).bind fun r2 =>
      chk (decide (0 ≤ (1 : Int) ∧ (1 : Int) ≤ (r1.length : Int))) (chk (decide (0 ≤ (1 : Int) ∧ (1 : Int) ≤ (r2.length : Int))) (chk (small (plan5_a.length + 1) 48) ((T48_0 (Sl48a b0 (w64 (i6_a + (1 : Int))) (plan5_a ++ ([(r1.take 1, (r2.take 1, ()))] : List (List Int × List Int × Unit)))))))))))
      (chk (decide (0 ≤ imin (o2100_b.length : Int) (o2101_b.length : Int) ∧ imin (o2100_b.length : Int) (o2101_b.length : Int) ≤ (o2100_b.length : Int))) (chk (decide (0 ≤ imin (o2100_b.length : Int) (o2101_b.length : Int) ∧ imin (o2100_b.length : Int) (o2101_b.length : Int) ≤ (o2101_b.length : Int))) (chk (small (plan5_a.length + 1) 48) ((T48_0 (Sl48a b0 (w64 (i6_a + (1 : Int))) (plan5_a ++ ([((o2100_b.take ((imin (o2100_b.length : Int) (o2101_b.length : Int)).toNat)).drop 0, ((o2101_b.take ((imin (o2100_b.length : Int) (o2101_b.length : Int)).toNat)).drop 0, ()))] : List (List Int × List Int × Unit)))))))))) := by kernel_rfl
theorem ql48b (a51 : (List Int) → Option (List Int)) (N : Nat) (b0 : Int × List (List Int) × Unit) (i6_a : Int) (plan5_a : List (List Int × List Int × Unit)) (T48_0 : TS → Option (Int × List (List Int × List Int × Unit))) : ∀ (m : Nat) (t27_b : Int) (o2100_b : List Int) (o2101_b : List Int), R48_1 a51 N T48_0 m (Sl48b b0 i6_a plan5_a t27_b o2100_b o2101_b) = l48b a51 N b0 i6_a plan5_a (fun y0 y1 => T48_0 (Sl48a b0 y0 y1)) m t27_b o2100_b o2101_b
        | 0, _, _, _ => rfl
        | m + 1, t27_b, o2100_b, o2101_b => by rw [wl48b]; simp only [l48b, ql48b a51 N b0 i6_a plan5_a T48_0 m]
def l48a (a51 : (List Int) → Option (List Int)) (N : Nat) (b0 : Int × List (List Int) × Unit) : Nat → Int → (List (List Int × List Int × Unit)) → Option (Int × List (List Int × List Int × Unit))
  | 0, _, _ => none
  | n + 1, i6_a, plan5_a => cond (decide (i6_a < (b0.2.1.length : Int))) (cond (decide (i6_a < (3 : Int))) ((l48b a51 N b0 i6_a plan5_a (fun y0 y1 => (l48a a51 N b0 n y0 y1)) N (0 : Int) ([] : List Int) ([] : List Int)))
      (some (w64 ((3 : Int) + (Int.tmod (w64 (b0.1)) (7 : Int))), plan5_a)))
      (some (w64 ((3 : Int) + (Int.tmod (w64 (b0.1)) (7 : Int))), plan5_a))
theorem wl48a (a51 : (List Int) → Option (List Int)) (N : Nat) (b0 : Int × List (List Int) × Unit) (m : Nat) (i6_a : Int) (plan5_a : List (List Int × List Int × Unit)) : R48_0 a51 N (m + 1) (Sl48a b0 i6_a plan5_a) = cond (decide (i6_a < (b0.2.1.length : Int))) (cond (decide (i6_a < (3 : Int))) ((R48_1 a51 N (R48_0 a51 N m) N (Sl48b b0 i6_a plan5_a (0 : Int) ([] : List Int) ([] : List Int))))
      (some (w64 ((3 : Int) + (Int.tmod (w64 (b0.1)) (7 : Int))), plan5_a)))
      (some (w64 ((3 : Int) + (Int.tmod (w64 (b0.1)) (7 : Int))), plan5_a)) := by kernel_rfl
theorem ql48a (a51 : (List Int) → Option (List Int)) (N : Nat) (b0 : Int × List (List Int) × Unit) : ∀ (m : Nat) (i6_a : Int) (plan5_a : List (List Int × List Int × Unit)), R48_0 a51 N m (Sl48a b0 i6_a plan5_a) = l48a a51 N b0 m i6_a plan5_a
        | 0, _, _ => rfl
        | m + 1, i6_a, plan5_a => by rw [wl48a]; simp only [l48a, ql48b, ql48a a51 N b0 m]
def m48 (a51 : (List Int) → Option (List Int)) (N : Nat) (b0 : Int × List (List Int) × Unit) : Option (Int × List (List Int × List Int × Unit)) :=
      (l48a a51 N b0 N (0 : Int) ([] : List (List Int × List Int × Unit)))
theorem wm48 (a51 : (List Int) → Option (List Int)) (N : Nat) (b0 : Int × List (List Int) × Unit) : callF (E48 a51) lv48 N en48 c48 (resOf Try.f48) 89 [.dv (.pair (.int .u8) (.pair (.sl (.arr 9 (.int .u8))) (.unit))) b0] [] dec48 = (R48_0 a51 N N (Sl48a b0 (0 : Int) ([] : List (List Int × List Int × Unit)))) := by kernel_rfl
theorem k48 (a51 : (List Int) → Option (List Int)) (N : Nat) (b0 : Int × List (List Int) × Unit) : callF (E48 a51) lv48 N en48 c48 (resOf Try.f48) 89 [.dv (.pair (.int .u8) (.pair (.sl (.arr 9 (.int .u8))) (.unit))) b0] [] dec48 = m48 a51 N b0 := by rw [wm48]; simp only [m48, ql48a]
theorem ok48 (a51 : (List Int) → Option (List Int)) (h51 : FnOk Try.prog 51 (F51 a51)) (a : (Int × List (List Int) × Unit) → Option (Int × List (List Int × List Int × Unit))) (h : ∀ b0 r, a b0 = some r → (∃ N, m48 a51 N b0 = some r)) : FnOk Try.prog 48 (F48 a) := by
  intro args Of x hx
  simp only [F48] at hx
  split at hx
  · rename_i b0
    obtain ⟨N, hN⟩ := h _ _ hx
    refine lifted (L := [(51, F51 a51)]) (rc := (fun i => ([(7, [none, none])] : List (Nat × List (Option DT))).lookup i)) (fz := nfz) (fn := Try.f48) (by kernel_rfl) (by kernel_rfl) (by kernel_rfl) (by kernel_rfl) rfl ?_ ((k48 a51 N _).trans hN) ?_
    · intro p hp; simp only [List.mem_cons, List.not_mem_nil, or_false] at hp; rcases hp with rfl; exact h51
    · intro l o hd
      simp only [dec48] at hd
      split at hd
      · obtain rfl := Option.some.inj hd; exact ⟨rfl, rfl⟩
      · cases hd
  · cases hx
def E11 (a16 : Option (Bool)) (a21 : (List Int) → (List Int) → Option (Bool)) (a33 : Int → (List (List Int × List Int × Unit)) → Int → Int → Option (List Int × Int)) (a37 : Int → (List (List Int × List Int × Unit)) → Option (List Int × List Int × Int)) (a44c50 : Int → (List Int) → Int → (List (List Int × List Int × Unit)) → Bool → Int → (List (List Int)) → Option (Int × List (List Int × List Int × Unit) × Bool × Int × List (List Int))) (a48 : (Int × List (List Int) × Unit) → Option (Int × List (List Int × List Int × Unit))) (a49 : Int → (List (List Int × List Int × Unit)) → Int → Int → Option (List Int)) : Env := mkE TI TY [(16, F16 a16), (21, F21 a21), (33, F33 a33), (37, F37 a37), (44, F44c50 a44c50), (48, F48 a48), (49, F49 a49)] (fun i => ([(4, [some (.sl (.pair (.sl (.int .i64)) (.pair (.sl (.int .i64)) (.unit))))]), (5, [some (.arr 0 (.arr 2 (.int .i64)))])] : List (Nat × List (Option DT))).lookup i) nfz
noncomputable def c11 : Code := bodyOf Try.f11
def nm11_0 : Norm := ⟨[3, 4, 5, 28, 29], [3, 4, 5], [(.fld 5 0, 2100, .arr 2 (.int .i64))], []⟩
def nm11_1 : Norm := ⟨[3, 4, 5, 7, 41, 42, 43], [3, 4, 5, 7, 2100], [], []⟩
def nm11_2 : Norm := ⟨[3, 4, 5, 7, 8, 12, 13, 41, 42, 43], [3, 4, 5, 7, 2100], [], []⟩
def lv11 : Nat → Option Norm := norms [(5, nm11_0), (11, nm11_1), (18, nm11_2)]
def en11 : End := ⟨[], ⟨[168], [], [], []⟩⟩
def dec11 (l : List TV) (o : List (Nat × TO)) : Option (Bool) := match l, o with | [.dv (.bool) x0], [] => some (x0) | _, _ => none
noncomputable def K11_0 (a16 : Option (Bool)) (a21 : (List Int) → (List Int) → Option (Bool)) (a33 : Int → (List (List Int × List Int × Unit)) → Int → Int → Option (List Int × Int)) (a37 : Int → (List (List Int × List Int × Unit)) → Option (List Int × List Int × Int)) (a44c50 : Int → (List Int) → Int → (List (List Int × List Int × Unit)) → Bool → Int → (List (List Int)) → Option (Int × List (List Int × List Int × Unit) × Bool × Int × List (List Int))) (a48 : (Int × List (List Int) × Unit) → Option (Int × List (List Int × List Int × Unit))) (a49 : Int → (List (List Int × List Int × Unit)) → Int → Int → Option (List Int)) (N : Nat) : Kont (Bool) := kont (E11 a16 a21 a33 a37 a44c50 a48 a49) lv11 N c11 [1, 1, 1, 1, 0, 1, 0] (fin TI en11 (resOf Try.f11) dec11)
noncomputable def R11_0 (a16 : Option (Bool)) (a21 : (List Int) → (List Int) → Option (Bool)) (a33 : Int → (List (List Int × List Int × Unit)) → Int → Int → Option (List Int × Int)) (a37 : Int → (List (List Int × List Int × Unit)) → Option (List Int × List Int × Int)) (a44c50 : Int → (List Int) → Int → (List (List Int × List Int × Unit)) → Bool → Int → (List (List Int)) → Option (Int × List (List Int × List Int × Unit) × Bool × Int × List (List Int))) (a48 : (Int × List (List Int) × Unit) → Option (Int × List (List Int × List Int × Unit))) (a49 : Int → (List (List Int × List Int × Unit)) → Int → Int → Option (List Int)) (N : Nat) (m : Nat) : TS → Option (Bool) := loopK (den (E11 a16 a21 a33 a37 a44c50 a48 a49) lv11 N (sub c11 [1, 1, 1, 1, 0, 1, 0, 0])) (TS.norm nm11_0) (K11_0 a16 a21 a33 a37 a44c50 a48 a49 N) m
noncomputable def K11_1 (a16 : Option (Bool)) (a21 : (List Int) → (List Int) → Option (Bool)) (a33 : Int → (List (List Int × List Int × Unit)) → Int → Int → Option (List Int × Int)) (a37 : Int → (List (List Int × List Int × Unit)) → Option (List Int × List Int × Int)) (a44c50 : Int → (List Int) → Int → (List (List Int × List Int × Unit)) → Bool → Int → (List (List Int)) → Option (Int × List (List Int × List Int × Unit) × Bool × Int × List (List Int))) (a48 : (Int × List (List Int) × Unit) → Option (Int × List (List Int × List Int × Unit))) (a49 : Int → (List (List Int × List Int × Unit)) → Int → Int → Option (List Int)) (N : Nat) : Kont (Bool) := kont (E11 a16 a21 a33 a37 a44c50 a48 a49) lv11 N c11 [1, 1, 1, 1, 1, 1, 0, 1, 0] (fin TI en11 (resOf Try.f11) dec11)
noncomputable def R11_1 (a16 : Option (Bool)) (a21 : (List Int) → (List Int) → Option (Bool)) (a33 : Int → (List (List Int × List Int × Unit)) → Int → Int → Option (List Int × Int)) (a37 : Int → (List (List Int × List Int × Unit)) → Option (List Int × List Int × Int)) (a44c50 : Int → (List Int) → Int → (List (List Int × List Int × Unit)) → Bool → Int → (List (List Int)) → Option (Int × List (List Int × List Int × Unit) × Bool × Int × List (List Int))) (a48 : (Int × List (List Int) × Unit) → Option (Int × List (List Int × List Int × Unit))) (a49 : Int → (List (List Int × List Int × Unit)) → Int → Int → Option (List Int)) (N : Nat) (m : Nat) : TS → Option (Bool) := loopK (den (E11 a16 a21 a33 a37 a44c50 a48 a49) lv11 N (sub c11 [1, 1, 1, 1, 1, 1, 0, 1, 0, 0])) (TS.norm nm11_1) (K11_1 a16 a21 a33 a37 a44c50 a48 a49 N) m
noncomputable def K11_2 (a16 : Option (Bool)) (a21 : (List Int) → (List Int) → Option (Bool)) (a33 : Int → (List (List Int × List Int × Unit)) → Int → Int → Option (List Int × Int)) (a37 : Int → (List (List Int × List Int × Unit)) → Option (List Int × List Int × Int)) (a44c50 : Int → (List Int) → Int → (List (List Int × List Int × Unit)) → Bool → Int → (List (List Int)) → Option (Int × List (List Int × List Int × Unit) × Bool × Int × List (List Int))) (a48 : (Int × List (List Int) × Unit) → Option (Int × List (List Int × List Int × Unit))) (a49 : Int → (List (List Int × List Int × Unit)) → Int → Int → Option (List Int)) (N : Nat) (T11_1 : TS → Option (Bool)) : Kont (Bool) := kont (E11 a16 a21 a33 a37 a44c50 a48 a49) lv11 N (sub c11 [1, 1, 1, 1, 1, 1, 0, 1, 0, 0]) [1, 1, 0, 0, 1, 1, 1, 1, 1, 0] (kloop (TS.norm nm11_1) (K11_1 a16 a21 a33 a37 a44c50 a48 a49 N) T11_1)
noncomputable def R11_2 (a16 : Option (Bool)) (a21 : (List Int) → (List Int) → Option (Bool)) (a33 : Int → (List (List Int × List Int × Unit)) → Int → Int → Option (List Int × Int)) (a37 : Int → (List (List Int × List Int × Unit)) → Option (List Int × List Int × Int)) (a44c50 : Int → (List Int) → Int → (List (List Int × List Int × Unit)) → Bool → Int → (List (List Int)) → Option (Int × List (List Int × List Int × Unit) × Bool × Int × List (List Int))) (a48 : (Int × List (List Int) × Unit) → Option (Int × List (List Int × List Int × Unit))) (a49 : Int → (List (List Int × List Int × Unit)) → Int → Int → Option (List Int)) (N : Nat) (T11_1 : TS → Option (Bool)) (m : Nat) : TS → Option (Bool) := loopK (den (E11 a16 a21 a33 a37 a44c50 a48 a49) lv11 N (sub c11 [1, 1, 1, 1, 1, 1, 0, 1, 0, 0, 1, 1, 0, 0, 1, 1, 1, 1, 1, 0, 0])) (TS.norm nm11_2) (K11_2 a16 a21 a33 a37 a44c50 a48 a49 N T11_1) m
def Sl11c (r1 : Int × List (List Int × List Int × Unit)) (o2100_a : List (List Int)) (t43_b : Int) (r3 : List Int) (k13_c : Int) (o7_c : List (List Int)) : TS := ⟨slots 168 [(3, .ptr 3 0 [0]), (4, .ptr 4 0 [0]), (5, .ptr 5 0 [0]), (7, .ptr 7 0 []), (8, .dv (.int .i64) t43_b), (12, .dv (.sl (.int .i64)) r3), (13, .dv (.int .i64) k13_c), (41, .row 2100), (42, .dv (.int .i64) (o2100_a.length : Int)), (43, .dv (.int .i64) t43_b)], [(3, .rcd [.dv (.int .i64) r1.1]), (4, .rcd [.dv (.sl (.pair (.sl (.int .i64)) (.pair (.sl (.int .i64)) (.unit)))) r1.2]), (5, .rcd [.row 2100]), (7, .row (.arr 2 (.int .i64)) o7_c), (2100, .row (.arr 2 (.int .i64)) o2100_a)]⟩
def Sl11b (r1 : Int × List (List Int × List Int × Unit)) (o2100_a : List (List Int)) (t43_b : Int) (o7_b : List (List Int)) : TS := ⟨slots 168 [(3, .ptr 3 0 [0]), (4, .ptr 4 0 [0]), (5, .ptr 5 0 [0]), (7, .ptr 7 0 []), (41, .row 2100), (42, .dv (.int .i64) (o2100_a.length : Int)), (43, .dv (.int .i64) t43_b)], [(3, .rcd [.dv (.int .i64) r1.1]), (4, .rcd [.dv (.sl (.pair (.sl (.int .i64)) (.pair (.sl (.int .i64)) (.unit)))) r1.2]), (5, .rcd [.row 2100]), (7, .row (.arr 2 (.int .i64)) o7_b), (2100, .row (.arr 2 (.int .i64)) o2100_a)]⟩
def Sl11a (r1 : Int × List (List Int × List Int × Unit)) (t29_a : Int) (o2100_a : List (List Int)) : TS := ⟨slots 168 [(3, .ptr 3 0 [0]), (4, .ptr 4 0 [0]), (5, .ptr 5 0 [0]), (28, .dv (.int .i64) r1.1), (29, .dv (.int .i64) t29_a)], [(2100, .row (.arr 2 (.int .i64)) o2100_a), (3, .rcd [.dv (.int .i64) r1.1]), (4, .rcd [.dv (.sl (.pair (.sl (.int .i64)) (.pair (.sl (.int .i64)) (.unit)))) r1.2]), (5, .rcd [.row 2100])]⟩
def l11c (a16 : Option (Bool)) (a21 : (List Int) → (List Int) → Option (Bool)) (a33 : Int → (List (List Int × List Int × Unit)) → Int → Int → Option (List Int × Int)) (a37 : Int → (List (List Int × List Int × Unit)) → Option (List Int × List Int × Int)) (a44c50 : Int → (List Int) → Int → (List (List Int × List Int × Unit)) → Bool → Int → (List (List Int)) → Option (Int × List (List Int × List Int × Unit) × Bool × Int × List (List Int))) (a48 : (Int × List (List Int) × Unit) → Option (Int × List (List Int × List Int × Unit))) (a49 : Int → (List (List Int × List Int × Unit)) → Int → Int → Option (List Int)) (N : Nat) (r1 : Int × List (List Int × List Int × Unit)) (o2100_a : List (List Int)) (t43_b : Int) (r3 : List Int) (rec_l11b : Int → (List (List Int)) → Option (Bool)) : Nat → Int → (List (List Int)) → Option (Bool)
  | 0, _, _ => none
  | n + 1, k13_c, o7_c => cond (decide (k13_c < (o2100_a.length : Int))) (cond (decide (((o7_c.getD 0 ([(0 : Int), (0 : Int)] : List Int)).getD 0 (0 : Int)) < (0 : Int))) (chk (decide (0 ≤ k13_c ∧ k13_c < (o2100_a.length : Int))) (chk (decide (0 ≤ k13_c ∧ k13_c < (o2100_a.length : Int))) ((a49 r1.1 r1.2 ((o2100_a.getD k13_c.toNat ([(0 : Int), (0 : Int)] : List Int)).getD 0 (0 : Int)) ((o2100_a.getD k13_c.toNat ([(0 : Int), (0 : Int)] : List Int)).getD 1 (0 : Int))).bind fun r5 =>
      (a21 r3 r5).bind fun r6 =>
      cond (r6) ((l11c a16 a21 a33 a37 a44c50 a48 a49 N r1 o2100_a t43_b r3 rec_l11b n (w64 (k13_c + (1 : Int))) (o7_c.set 0 ([t43_b, k13_c] : List Int))))
      ((l11c a16 a21 a33 a37 a44c50 a48 a49 N r1 o2100_a t43_b r3 rec_l11b n (w64 (k13_c + (1 : Int))) o7_c)))))
      ((l11c a16 a21 a33 a37 a44c50 a48 a49 N r1 o2100_a t43_b r3 rec_l11b n (w64 (k13_c + (1 : Int))) o7_c)))
      ((rec_l11b (w64 (t43_b + (1 : Int))) o7_c))
theorem wl11c (a16 : Option (Bool)) (a21 : (List Int) → (List Int) → Option (Bool)) (a33 : Int → (List (List Int × List Int × Unit)) → Int → Int → Option (List Int × Int)) (a37 : Int → (List (List Int × List Int × Unit)) → Option (List Int × List Int × Int)) (a44c50 : Int → (List Int) → Int → (List (List Int × List Int × Unit)) → Bool → Int → (List (List Int)) → Option (Int × List (List Int × List Int × Unit) × Bool × Int × List (List Int))) (a48 : (Int × List (List Int) × Unit) → Option (Int × List (List Int × List Int × Unit))) (a49 : Int → (List (List Int × List Int × Unit)) → Int → Int → Option (List Int)) (N : Nat) (r1 : Int × List (List Int × List Int × Unit)) (o2100_a : List (List Int)) (t43_b : Int) (r3 : List Int) (T11_1 : TS → Option (Bool)) (m : Nat) (k13_c : Int) (o7_c : List (List Int)) : R11_2 a16 a21 a33 a37 a44c50 a48 a49 N T11_1 (m + 1) (Sl11c r1 o2100_a t43_b r3 k13_c o7_c) = cond (decide (k13_c < (o2100_a.length : Int))) (cond (decide (((o7_c.getD 0 ([(0 : Int), (0 : Int)] : List Int)).getD 0 (0 : Int)) < (0 : Int))) (chk (decide (0 ≤ k13_c ∧ k13_c < (o2100_a.length : Int))) (chk (decide (0 ≤ k13_c ∧ k13_c < (o2100_a.length : Int))) ((a49 r1.1 r1.2 ((o2100_a.getD k13_c.toNat ([(0 : Int), (0 : Int)] : List Int)).getD 0 (0 : Int)) ((o2100_a.getD k13_c.toNat ([(0 : Int), (0 : Int)] : List Int)).getD 1 (0 : Int))).bind fun r5 =>
      (a21 r3 r5).bind fun r6 =>
      cond (r6) ((R11_2 a16 a21 a33 a37 a44c50 a48 a49 N T11_1 m (Sl11c r1 o2100_a t43_b r3 (w64 (k13_c + (1 : Int))) (o7_c.set 0 ([t43_b, k13_c] : List Int)))))
      ((R11_2 a16 a21 a33 a37 a44c50 a48 a49 N T11_1 m (Sl11c r1 o2100_a t43_b r3 (w64 (k13_c + (1 : Int))) o7_c))))))
      ((R11_2 a16 a21 a33 a37 a44c50 a48 a49 N T11_1 m (Sl11c r1 o2100_a t43_b r3 (w64 (k13_c + (1 : Int))) o7_c))))
      ((T11_1 (Sl11b r1 o2100_a (w64 (t43_b + (1 : Int))) o7_c))) := by kernel_rfl
theorem ql11c (a16 : Option (Bool)) (a21 : (List Int) → (List Int) → Option (Bool)) (a33 : Int → (List (List Int × List Int × Unit)) → Int → Int → Option (List Int × Int)) (a37 : Int → (List (List Int × List Int × Unit)) → Option (List Int × List Int × Int)) (a44c50 : Int → (List Int) → Int → (List (List Int × List Int × Unit)) → Bool → Int → (List (List Int)) → Option (Int × List (List Int × List Int × Unit) × Bool × Int × List (List Int))) (a48 : (Int × List (List Int) × Unit) → Option (Int × List (List Int × List Int × Unit))) (a49 : Int → (List (List Int × List Int × Unit)) → Int → Int → Option (List Int)) (N : Nat) (r1 : Int × List (List Int × List Int × Unit)) (o2100_a : List (List Int)) (t43_b : Int) (r3 : List Int) (T11_1 : TS → Option (Bool)) : ∀ (m : Nat) (k13_c : Int) (o7_c : List (List Int)), R11_2 a16 a21 a33 a37 a44c50 a48 a49 N T11_1 m (Sl11c r1 o2100_a t43_b r3 k13_c o7_c) = l11c a16 a21 a33 a37 a44c50 a48 a49 N r1 o2100_a t43_b r3 (fun y0 y1 => T11_1 (Sl11b r1 o2100_a y0 y1)) m k13_c o7_c
        | 0, _, _ => rfl
        | m + 1, k13_c, o7_c => by rw [wl11c]; simp only [l11c, ql11c a16 a21 a33 a37 a44c50 a48 a49 N r1 o2100_a t43_b r3 T11_1 m]
def l11b (a16 : Option (Bool)) (a21 : (List Int) → (List Int) → Option (Bool)) (a33 : Int → (List (List Int × List Int × Unit)) → Int → Int → Option (List Int × Int)) (a37 : Int → (List (List Int × List Int × Unit)) → Option (List Int × List Int × Int)) (a44c50 : Int → (List Int) → Int → (List (List Int × List Int × Unit)) → Bool → Int → (List (List Int)) → Option (Int × List (List Int × List Int × Unit) × Bool × Int × List (List Int))) (a48 : (Int × List (List Int) × Unit) → Option (Int × List (List Int × List Int × Unit))) (a49 : Int → (List (List Int × List Int × Unit)) → Int → Int → Option (List Int)) (N : Nat) (r1 : Int × List (List Int × List Int × Unit)) (o2100_a : List (List Int)) : Nat → Int → (List (List Int)) → Option (Bool)
  | 0, _, _ => none
  | n + 1, t43_b, o7_b => cond (decide (t43_b < (o2100_a.length : Int))) (chk (decide (0 ≤ t43_b ∧ t43_b < (o2100_a.length : Int))) ((a33 r1.1 r1.2 ((o2100_a.getD t43_b.toNat ([(0 : Int), (0 : Int)] : List Int)).getD 0 (0 : Int)) ((o2100_a.getD t43_b.toNat ([(0 : Int), (0 : Int)] : List Int)).getD 1 (0 : Int))).bind fun r2 =>
      (a49 r1.1 r1.2 ((o2100_a.getD t43_b.toNat ([(0 : Int), (0 : Int)] : List Int)).getD 0 (0 : Int)) ((o2100_a.getD t43_b.toNat ([(0 : Int), (0 : Int)] : List Int)).getD 1 (0 : Int))).bind fun r3 =>
      cond (r2.2 != (0 : Int)) (some false)
      ((a21 r2.1 r3).bind fun r4 =>
      cond (!r4) (some false)
      ((l11c a16 a21 a33 a37 a44c50 a48 a49 N r1 o2100_a t43_b r3 (fun y0 y1 => (l11b a16 a21 a33 a37 a44c50 a48 a49 N r1 o2100_a n y0 y1)) N (w64 (t43_b + (1 : Int))) o7_b)))))
      ((a37 r1.1 r1.2).bind fun r7 =>
      cond (decide (((o7_b.getD 0 ([(0 : Int), (0 : Int)] : List Int)).getD 0 (0 : Int)) < (0 : Int))) (cond (r7.2.2 != (14 : Int)) (some false)
      (cond (!(DT.beq (.arr 2 (.int .i64)) r7.1 ([(0 : Int), (0 : Int)] : List Int))) (some false)
      (cond (!(DT.beq (.arr 2 (.int .i64)) r7.2.1 ([(0 : Int), (0 : Int)] : List Int))) (some false)
      (cond (decide (((o7_b.getD 0 ([(0 : Int), (0 : Int)] : List Int)).getD 0 (0 : Int)) ≥ (0 : Int))) (cond (r7.2.2 != (0 : Int)) (some false)
      (chk (decide (0 ≤ (o7_b.getD 0 ([(0 : Int), (0 : Int)] : List Int)).getD 0 (0 : Int) ∧ (o7_b.getD 0 ([(0 : Int), (0 : Int)] : List Int)).getD 0 (0 : Int) < (o2100_a.length : Int))) (cond (!(DT.beq (.arr 2 (.int .i64)) r7.1 (o2100_a.getD (((o7_b.getD 0 ([(0 : Int), (0 : Int)] : List Int)).getD 0 (0 : Int)).toNat) ([(0 : Int), (0 : Int)] : List Int)))) (some false)
      (chk (decide (0 ≤ (o7_b.getD 0 ([(0 : Int), (0 : Int)] : List Int)).getD 1 (0 : Int) ∧ (o7_b.getD 0 ([(0 : Int), (0 : Int)] : List Int)).getD 1 (0 : Int) < (o2100_a.length : Int))) (cond (!(DT.beq (.arr 2 (.int .i64)) r7.2.1 (o2100_a.getD (((o7_b.getD 0 ([(0 : Int), (0 : Int)] : List Int)).getD 1 (0 : Int)).toNat) ([(0 : Int), (0 : Int)] : List Int)))) (some false)
      ((a44c50 (r1.2.length : Int) ([] : List Int) r1.1 r1.2 true (0 : Int) o2100_a).bind fun r8 =>
      cond (r8.2.2.1) (cond (r8.2.2.2.1 == (r8.2.2.2.2.length : Int)) ((a16).bind fun r9 =>
      some r9)
      (some false))
      (some false)))))))
      ((a44c50 (r1.2.length : Int) ([] : List Int) r1.1 r1.2 true (0 : Int) o2100_a).bind fun r10 =>
      cond (r10.2.2.1) (cond (r10.2.2.2.1 == (r10.2.2.2.2.length : Int)) ((a16).bind fun r11 =>
      some r11)
      (some false))
      (some false))))))
      (cond (decide (((o7_b.getD 0 ([(0 : Int), (0 : Int)] : List Int)).getD 0 (0 : Int)) ≥ (0 : Int))) (cond (r7.2.2 != (0 : Int)) (some false)
      (chk (decide (0 ≤ (o7_b.getD 0 ([(0 : Int), (0 : Int)] : List Int)).getD 0 (0 : Int) ∧ (o7_b.getD 0 ([(0 : Int), (0 : Int)] : List Int)).getD 0 (0 : Int) < (o2100_a.length : Int))) (cond (!(DT.beq (.arr 2 (.int .i64)) r7.1 (o2100_a.getD (((o7_b.getD 0 ([(0 : Int), (0 : Int)] : List Int)).getD 0 (0 : Int)).toNat) ([(0 : Int), (0 : Int)] : List Int)))) (some false)
      (chk (decide (0 ≤ (o7_b.getD 0 ([(0 : Int), (0 : Int)] : List Int)).getD 1 (0 : Int) ∧ (o7_b.getD 0 ([(0 : Int), (0 : Int)] : List Int)).getD 1 (0 : Int) < (o2100_a.length : Int))) (cond (!(DT.beq (.arr 2 (.int .i64)) r7.2.1 (o2100_a.getD (((o7_b.getD 0 ([(0 : Int), (0 : Int)] : List Int)).getD 1 (0 : Int)).toNat) ([(0 : Int), (0 : Int)] : List Int)))) (some false)
      ((a44c50 (r1.2.length : Int) ([] : List Int) r1.1 r1.2 true (0 : Int) o2100_a).bind fun r12 =>
      cond (r12.2.2.1) (cond (r12.2.2.2.1 == (r12.2.2.2.2.length : Int)) ((a16).bind fun r13 =>
      some r13)
      (some false))
      (some false)))))))
      ((a44c50 (r1.2.length : Int) ([] : List Int) r1.1 r1.2 true (0 : Int) o2100_a).bind fun r14 =>
      cond (r14.2.2.1) (cond (r14.2.2.2.1 == (r14.2.2.2.2.length : Int)) ((a16).bind fun r15 =>
      some r15)
      (some false))
      (some false))))
theorem wl11b (a16 : Option (Bool)) (a21 : (List Int) → (List Int) → Option (Bool)) (a33 : Int → (List (List Int × List Int × Unit)) → Int → Int → Option (List Int × Int)) (a37 : Int → (List (List Int × List Int × Unit)) → Option (List Int × List Int × Int)) (a44c50 : Int → (List Int) → Int → (List (List Int × List Int × Unit)) → Bool → Int → (List (List Int)) → Option (Int × List (List Int × List Int × Unit) × Bool × Int × List (List Int))) (a48 : (Int × List (List Int) × Unit) → Option (Int × List (List Int × List Int × Unit))) (a49 : Int → (List (List Int × List Int × Unit)) → Int → Int → Option (List Int)) (N : Nat) (r1 : Int × List (List Int × List Int × Unit)) (o2100_a : List (List Int)) (m : Nat) (t43_b : Int) (o7_b : List (List Int)) : R11_1 a16 a21 a33 a37 a44c50 a48 a49 N (m + 1) (Sl11b r1 o2100_a t43_b o7_b) = cond (decide (t43_b < (o2100_a.length : Int))) (chk (decide (0 ≤ t43_b ∧ t43_b < (o2100_a.length : Int))) ((a33 r1.1 r1.2 ((o2100_a.getD t43_b.toNat ([(0 : Int), (0 : Int)] : List Int)).getD 0 (0 : Int)) ((o2100_a.getD t43_b.toNat ([(0 : Int), (0 : Int)] : List Int)).getD 1 (0 : Int))).bind fun r2 =>
      (a49 r1.1 r1.2 ((o2100_a.getD t43_b.toNat ([(0 : Int), (0 : Int)] : List Int)).getD 0 (0 : Int)) ((o2100_a.getD t43_b.toNat ([(0 : Int), (0 : Int)] : List Int)).getD 1 (0 : Int))).bind fun r3 =>
      cond (r2.2 != (0 : Int)) (some false)
      ((a21 r2.1 r3).bind fun r4 =>
      cond (!r4) (some false)
      ((R11_2 a16 a21 a33 a37 a44c50 a48 a49 N (R11_1 a16 a21 a33 a37 a44c50 a48 a49 N m) N (Sl11c r1 o2100_a t43_b r3 (w64 (t43_b + (1 : Int))) o7_b))))))
      ((a37 r1.1 r1.2).bind fun r7 =>
      cond (decide (((o7_b.getD 0 ([(0 : Int), (0 : Int)] : List Int)).getD 0 (0 : Int)) < (0 : Int))) (cond (r7.2.2 != (14 : Int)) (some false)
      (cond (!(DT.beq (.arr 2 (.int .i64)) r7.1 ([(0 : Int), (0 : Int)] : List Int))) (some false)
      (cond (!(DT.beq (.arr 2 (.int .i64)) r7.2.1 ([(0 : Int), (0 : Int)] : List Int))) (some false)
      (cond (decide (((o7_b.getD 0 ([(0 : Int), (0 : Int)] : List Int)).getD 0 (0 : Int)) ≥ (0 : Int))) (cond (r7.2.2 != (0 : Int)) (some false)
      (chk (decide (0 ≤ (o7_b.getD 0 ([(0 : Int), (0 : Int)] : List Int)).getD 0 (0 : Int) ∧ (o7_b.getD 0 ([(0 : Int), (0 : Int)] : List Int)).getD 0 (0 : Int) < (o2100_a.length : Int))) (cond (!(DT.beq (.arr 2 (.int .i64)) r7.1 (o2100_a.getD (((o7_b.getD 0 ([(0 : Int), (0 : Int)] : List Int)).getD 0 (0 : Int)).toNat) ([(0 : Int), (0 : Int)] : List Int)))) (some false)
      (chk (decide (0 ≤ (o7_b.getD 0 ([(0 : Int), (0 : Int)] : List Int)).getD 1 (0 : Int) ∧ (o7_b.getD 0 ([(0 : Int), (0 : Int)] : List Int)).getD 1 (0 : Int) < (o2100_a.length : Int))) (cond (!(DT.beq (.arr 2 (.int .i64)) r7.2.1 (o2100_a.getD (((o7_b.getD 0 ([(0 : Int), (0 : Int)] : List Int)).getD 1 (0 : Int)).toNat) ([(0 : Int), (0 : Int)] : List Int)))) (some false)
      ((a44c50 (r1.2.length : Int) ([] : List Int) r1.1 r1.2 true (0 : Int) o2100_a).bind fun r8 =>
      cond (r8.2.2.1) (cond (r8.2.2.2.1 == (r8.2.2.2.2.length : Int)) ((a16).bind fun r9 =>
      some r9)
      (some false))
      (some false)))))))
      ((a44c50 (r1.2.length : Int) ([] : List Int) r1.1 r1.2 true (0 : Int) o2100_a).bind fun r10 =>
      cond (r10.2.2.1) (cond (r10.2.2.2.1 == (r10.2.2.2.2.length : Int)) ((a16).bind fun r11 =>
      some r11)
      (some false))
      (some false))))))
      (cond (decide (((o7_b.getD 0 ([(0 : Int), (0 : Int)] : List Int)).getD 0 (0 : Int)) ≥ (0 : Int))) (cond (r7.2.2 != (0 : Int)) (some false)
      (chk (decide (0 ≤ (o7_b.getD 0 ([(0 : Int), (0 : Int)] : List Int)).getD 0 (0 : Int) ∧ (o7_b.getD 0 ([(0 : Int), (0 : Int)] : List Int)).getD 0 (0 : Int) < (o2100_a.length : Int))) (cond (!(DT.beq (.arr 2 (.int .i64)) r7.1 (o2100_a.getD (((o7_b.getD 0 ([(0 : Int), (0 : Int)] : List Int)).getD 0 (0 : Int)).toNat) ([(0 : Int), (0 : Int)] : List Int)))) (some false)
      (chk (decide (0 ≤ (o7_b.getD 0 ([(0 : Int), (0 : Int)] : List Int)).getD 1 (0 : Int) ∧ (o7_b.getD 0 ([(0 : Int), (0 : Int)] : List Int)).getD 1 (0 : Int) < (o2100_a.length : Int))) (cond (!(DT.beq (.arr 2 (.int .i64)) r7.2.1 (o2100_a.getD (((o7_b.getD 0 ([(0 : Int), (0 : Int)] : List Int)).getD 1 (0 : Int)).toNat) ([(0 : Int), (0 : Int)] : List Int)))) (some false)
      ((a44c50 (r1.2.length : Int) ([] : List Int) r1.1 r1.2 true (0 : Int) o2100_a).bind fun r12 =>
      cond (r12.2.2.1) (cond (r12.2.2.2.1 == (r12.2.2.2.2.length : Int)) ((a16).bind fun r13 =>
      some r13)
      (some false))
      (some false)))))))
      ((a44c50 (r1.2.length : Int) ([] : List Int) r1.1 r1.2 true (0 : Int) o2100_a).bind fun r14 =>
      cond (r14.2.2.1) (cond (r14.2.2.2.1 == (r14.2.2.2.2.length : Int)) ((a16).bind fun r15 =>
      some r15)
      (some false))
      (some false)))) := by kernel_rfl
theorem ql11b (a16 : Option (Bool)) (a21 : (List Int) → (List Int) → Option (Bool)) (a33 : Int → (List (List Int × List Int × Unit)) → Int → Int → Option (List Int × Int)) (a37 : Int → (List (List Int × List Int × Unit)) → Option (List Int × List Int × Int)) (a44c50 : Int → (List Int) → Int → (List (List Int × List Int × Unit)) → Bool → Int → (List (List Int)) → Option (Int × List (List Int × List Int × Unit) × Bool × Int × List (List Int))) (a48 : (Int × List (List Int) × Unit) → Option (Int × List (List Int × List Int × Unit))) (a49 : Int → (List (List Int × List Int × Unit)) → Int → Int → Option (List Int)) (N : Nat) (r1 : Int × List (List Int × List Int × Unit)) (o2100_a : List (List Int)) : ∀ (m : Nat) (t43_b : Int) (o7_b : List (List Int)), R11_1 a16 a21 a33 a37 a44c50 a48 a49 N m (Sl11b r1 o2100_a t43_b o7_b) = l11b a16 a21 a33 a37 a44c50 a48 a49 N r1 o2100_a m t43_b o7_b
        | 0, _, _ => rfl
        | m + 1, t43_b, o7_b => by rw [wl11b]; simp only [l11b, ql11c, ql11b a16 a21 a33 a37 a44c50 a48 a49 N r1 o2100_a m]
def l11a (a16 : Option (Bool)) (a21 : (List Int) → (List Int) → Option (Bool)) (a33 : Int → (List (List Int × List Int × Unit)) → Int → Int → Option (List Int × Int)) (a37 : Int → (List (List Int × List Int × Unit)) → Option (List Int × List Int × Int)) (a44c50 : Int → (List Int) → Int → (List (List Int × List Int × Unit)) → Bool → Int → (List (List Int)) → Option (Int × List (List Int × List Int × Unit) × Bool × Int × List (List Int))) (a48 : (Int × List (List Int) × Unit) → Option (Int × List (List Int × List Int × Unit))) (a49 : Int → (List (List Int × List Int × Unit)) → Int → Int → Option (List Int)) (N : Nat) (r1 : Int × List (List Int × List Int × Unit)) : Nat → Int → (List (List Int)) → Option (Bool)
  | 0, _, _ => none
  | n + 1, t29_a, o2100_a => cond (decide (t29_a < r1.1)) (chk (small (o2100_a.length + 2) 16) ((l11a a16 a21 a33 a37 a44c50 a48 a49 N r1 n (w64 (t29_a + (1 : Int))) (o2100_a ++ ([([t29_a, (1 : Int)] : List Int), ([t29_a, (-1 : Int)] : List Int)] : List (List Int))))))
      ((l11b a16 a21 a33 a37 a44c50 a48 a49 N r1 o2100_a N (0 : Int) ([([(-1 : Int), (-1 : Int)] : List Int)] : List (List Int))))
theorem wl11a (a16 : Option (Bool)) (a21 : (List Int) → (List Int) → Option (Bool)) (a33 : Int → (List (List Int × List Int × Unit)) → Int → Int → Option (List Int × Int)) (a37 : Int → (List (List Int × List Int × Unit)) → Option (List Int × List Int × Int)) (a44c50 : Int → (List Int) → Int → (List (List Int × List Int × Unit)) → Bool → Int → (List (List Int)) → Option (Int × List (List Int × List Int × Unit) × Bool × Int × List (List Int))) (a48 : (Int × List (List Int) × Unit) → Option (Int × List (List Int × List Int × Unit))) (a49 : Int → (List (List Int × List Int × Unit)) → Int → Int → Option (List Int)) (N : Nat) (r1 : Int × List (List Int × List Int × Unit)) (m : Nat) (t29_a : Int) (o2100_a : List (List Int)) : R11_0 a16 a21 a33 a37 a44c50 a48 a49 N (m + 1) (Sl11a r1 t29_a o2100_a) = cond (decide (t29_a < r1.1)) (chk (small (o2100_a.length + 2) 16) ((R11_0 a16 a21 a33 a37 a44c50 a48 a49 N m (Sl11a r1 (w64 (t29_a + (1 : Int))) (o2100_a ++ ([([t29_a, (1 : Int)] : List Int), ([t29_a, (-1 : Int)] : List Int)] : List (List Int)))))))
      ((R11_1 a16 a21 a33 a37 a44c50 a48 a49 N N (Sl11b r1 o2100_a (0 : Int) ([([(-1 : Int), (-1 : Int)] : List Int)] : List (List Int))))) := by kernel_rfl
theorem ql11a (a16 : Option (Bool)) (a21 : (List Int) → (List Int) → Option (Bool)) (a33 : Int → (List (List Int × List Int × Unit)) → Int → Int → Option (List Int × Int)) (a37 : Int → (List (List Int × List Int × Unit)) → Option (List Int × List Int × Int)) (a44c50 : Int → (List Int) → Int → (List (List Int × List Int × Unit)) → Bool → Int → (List (List Int)) → Option (Int × List (List Int × List Int × Unit) × Bool × Int × List (List Int))) (a48 : (Int × List (List Int) × Unit) → Option (Int × List (List Int × List Int × Unit))) (a49 : Int → (List (List Int × List Int × Unit)) → Int → Int → Option (List Int)) (N : Nat) (r1 : Int × List (List Int × List Int × Unit)) : ∀ (m : Nat) (t29_a : Int) (o2100_a : List (List Int)), R11_0 a16 a21 a33 a37 a44c50 a48 a49 N m (Sl11a r1 t29_a o2100_a) = l11a a16 a21 a33 a37 a44c50 a48 a49 N r1 m t29_a o2100_a
        | 0, _, _ => rfl
        | m + 1, t29_a, o2100_a => by rw [wl11a]; simp only [l11a, ql11b, ql11a a16 a21 a33 a37 a44c50 a48 a49 N r1 m]
def m11 (a16 : Option (Bool)) (a21 : (List Int) → (List Int) → Option (Bool)) (a33 : Int → (List (List Int × List Int × Unit)) → Int → Int → Option (List Int × Int)) (a37 : Int → (List (List Int × List Int × Unit)) → Option (List Int × List Int × Int)) (a44c50 : Int → (List Int) → Int → (List (List Int × List Int × Unit)) → Bool → Int → (List (List Int)) → Option (Int × List (List Int × List Int × Unit) × Bool × Int × List (List Int))) (a48 : (Int × List (List Int) × Unit) → Option (Int × List (List Int × List Int × Unit))) (a49 : Int → (List (List Int × List Int × Unit)) → Int → Int → Option (List Int)) (N : Nat) (b0 : Int × List (List Int) × Unit) : Option (Bool) :=
      (a48 b0).bind fun r1 =>
      (l11a a16 a21 a33 a37 a44c50 a48 a49 N r1 N (0 : Int) ([([(0 : Int), (0 : Int)] : List Int)] : List (List Int)))
theorem wm11 (a16 : Option (Bool)) (a21 : (List Int) → (List Int) → Option (Bool)) (a33 : Int → (List (List Int × List Int × Unit)) → Int → Int → Option (List Int × Int)) (a37 : Int → (List (List Int × List Int × Unit)) → Option (List Int × List Int × Int)) (a44c50 : Int → (List Int) → Int → (List (List Int × List Int × Unit)) → Bool → Int → (List (List Int)) → Option (Int × List (List Int × List Int × Unit) × Bool × Int × List (List Int))) (a48 : (Int × List (List Int) × Unit) → Option (Int × List (List Int × List Int × Unit))) (a49 : Int → (List (List Int × List Int × Unit)) → Int → Int → Option (List Int)) (N : Nat) (b0 : Int × List (List Int) × Unit) : callF (E11 a16 a21 a33 a37 a44c50 a48 a49) lv11 N en11 c11 (resOf Try.f11) 167 [.dv (.pair (.int .u8) (.pair (.sl (.arr 9 (.int .u8))) (.unit))) b0] [] dec11 = (a48 b0).bind fun r1 =>
      (R11_0 a16 a21 a33 a37 a44c50 a48 a49 N N (Sl11a r1 (0 : Int) ([([(0 : Int), (0 : Int)] : List Int)] : List (List Int)))) := by kernel_rfl
theorem k11 (a16 : Option (Bool)) (a21 : (List Int) → (List Int) → Option (Bool)) (a33 : Int → (List (List Int × List Int × Unit)) → Int → Int → Option (List Int × Int)) (a37 : Int → (List (List Int × List Int × Unit)) → Option (List Int × List Int × Int)) (a44c50 : Int → (List Int) → Int → (List (List Int × List Int × Unit)) → Bool → Int → (List (List Int)) → Option (Int × List (List Int × List Int × Unit) × Bool × Int × List (List Int))) (a48 : (Int × List (List Int) × Unit) → Option (Int × List (List Int × List Int × Unit))) (a49 : Int → (List (List Int × List Int × Unit)) → Int → Int → Option (List Int)) (N : Nat) (b0 : Int × List (List Int) × Unit) : callF (E11 a16 a21 a33 a37 a44c50 a48 a49) lv11 N en11 c11 (resOf Try.f11) 167 [.dv (.pair (.int .u8) (.pair (.sl (.arr 9 (.int .u8))) (.unit))) b0] [] dec11 = m11 a16 a21 a33 a37 a44c50 a48 a49 N b0 := by rw [wm11]; simp only [m11, ql11a]
theorem ok11 (a16 : Option (Bool)) (a21 : (List Int) → (List Int) → Option (Bool)) (a33 : Int → (List (List Int × List Int × Unit)) → Int → Int → Option (List Int × Int)) (a37 : Int → (List (List Int × List Int × Unit)) → Option (List Int × List Int × Int)) (a44c50 : Int → (List Int) → Int → (List (List Int × List Int × Unit)) → Bool → Int → (List (List Int)) → Option (Int × List (List Int × List Int × Unit) × Bool × Int × List (List Int))) (a48 : (Int × List (List Int) × Unit) → Option (Int × List (List Int × List Int × Unit))) (a49 : Int → (List (List Int × List Int × Unit)) → Int → Int → Option (List Int)) (h16 : FnOk Try.prog 16 (F16 a16)) (h21 : FnOk Try.prog 21 (F21 a21)) (h33 : FnOk Try.prog 33 (F33 a33)) (h37 : FnOk Try.prog 37 (F37 a37)) (h44c50 : FnOk Try.prog 44 (F44c50 a44c50)) (h48 : FnOk Try.prog 48 (F48 a48)) (h49 : FnOk Try.prog 49 (F49 a49)) (a : (Int × List (List Int) × Unit) → Option (Bool)) (h : ∀ b0 r, a b0 = some r → (∃ N, m11 a16 a21 a33 a37 a44c50 a48 a49 N b0 = some r)) : FnOk Try.prog 11 (F11 a) := by
  intro args Of x hx
  simp only [F11] at hx
  split at hx
  · rename_i b0
    obtain ⟨N, hN⟩ := h _ _ hx
    refine lifted (L := [(16, F16 a16), (21, F21 a21), (33, F33 a33), (37, F37 a37), (44, F44c50 a44c50), (48, F48 a48), (49, F49 a49)]) (rc := (fun i => ([(4, [some (.sl (.pair (.sl (.int .i64)) (.pair (.sl (.int .i64)) (.unit))))]), (5, [some (.arr 0 (.arr 2 (.int .i64)))])] : List (Nat × List (Option DT))).lookup i)) (fz := nfz) (fn := Try.f11) (by kernel_rfl) (by kernel_rfl) (by kernel_rfl) (by kernel_rfl) rfl ?_ ((k11 a16 a21 a33 a37 a44c50 a48 a49 N _).trans hN) ?_
    · intro p hp; simp only [List.mem_cons, List.not_mem_nil, or_false] at hp; rcases hp with rfl | rfl | rfl | rfl | rfl | rfl | rfl
      · exact h16
      · exact h21
      · exact h33
      · exact h37
      · exact h44c50
      · exact h48
      · exact h49
    · intro l o hd
      simp only [dec11] at hd
      split at hd
      · obtain rfl := Option.some.inj hd; exact ⟨rfl, rfl⟩
      · cases hd
  · cases hx
def E53c : Env := mkE TI TY [] nrc nfz
noncomputable def c53c : Code := bodyOf Try.f53
def nm53c_0 : Norm := ⟨[0, 1, 2, 6], [9000, 9001], [(.slot 5, 1005, .int .i64)], []⟩
def nm53c_1 : Norm := ⟨[0, 1, 2, 6, 14, 15, 16], [9000, 9001], [(.slot 5, 1005, .int .i64)], []⟩
def lv53c : Nat → Option Norm := norms [(3, nm53c_0), (6, nm53c_1)]
def en53c : End := ⟨[(34, .sl (.int .i64))], ⟨[34], [9000, 9001], [], []⟩⟩
def dec53c (l : List TV) (o : List (Nat × TO)) : Option (List Int × Int × Int) := match l, o with | [.dv (.sl (.int .i64)) x0], [(9000, .rcd [.dv (.int .i64) x1]), (9001, .rcd [.dv (.int .u8) x2])] => some (x0, x1, x2) | _, _ => none
noncomputable def K53c_0 (N : Nat) : Kont (List Int × Int × Int) := kont (E53c) lv53c N c53c [1, 1, 0, 1, 0] (fin TI en53c (resOf Try.f53) dec53c)
noncomputable def R53c_0 (N : Nat) (m : Nat) : TS → Option (List Int × Int × Int) := loopK (den (E53c) lv53c N (sub c53c [1, 1, 0, 1, 0, 0])) (TS.norm nm53c_0) (K53c_0 N) m
noncomputable def K53c_1 (N : Nat) (T53c_0 : TS → Option (List Int × Int × Int)) : Kont (List Int × Int × Int) := kont (E53c) lv53c N (sub c53c [1, 1, 0, 1, 0, 0]) [1, 0, 0, 1, 0] (kloop (TS.norm nm53c_0) (K53c_0 N) T53c_0)
noncomputable def R53c_1 (N : Nat) (T53c_0 : TS → Option (List Int × Int × Int)) (m : Nat) : TS → Option (List Int × Int × Int) := loopK (den (E53c) lv53c N (sub c53c [1, 1, 0, 1, 0, 0, 1, 0, 0, 1, 0, 0])) (TS.norm nm53c_1) (K53c_1 N T53c_0) m
def Sl53cb (l0 : List Int) (p1 : Int) (p2 : Int) (x6_a : Int) (t16_b : Int) (out5_b : List Int) : TS := ⟨slots 34 [(0, .dv (.sl (.int .i64)) l0), (1, .ptr 9000 0 [0]), (2, .ptr 9001 0 [0]), (5, .row 1005), (6, .dv (.int .i64) x6_a), (14, .dv (.sl (.int .i64)) l0), (15, .dv (.int .i64) (l0.length : Int)), (16, .dv (.int .i64) t16_b)], [(1005, .row (.int .i64) out5_b), (9000, .rcd [.dv (.int .i64) p1]), (9001, .rcd [.dv (.int .u8) p2])]⟩
def Sl53ca (l0 : List Int) (p1 : Int) (p2 : Int) (x6_a : Int) (out5_a : List Int) : TS := ⟨slots 34 [(0, .dv (.sl (.int .i64)) l0), (1, .ptr 9000 0 [0]), (2, .ptr 9001 0 [0]), (5, .row 1005), (6, .dv (.int .i64) x6_a)], [(1005, .row (.int .i64) out5_a), (9000, .rcd [.dv (.int .i64) p1]), (9001, .rcd [.dv (.int .u8) p2])]⟩
def l53cb (N : Nat) (l0 : List Int) (p1 : Int) (p2 : Int) (x6_a : Int) (rec_l53ca : Int → (List Int) → Option (List Int × Int × Int)) : Nat → Int → (List Int) → Option (List Int × Int × Int)
  | 0, _, _ => none
  | n + 1, t16_b, out5_b => cond (decide (t16_b < (l0.length : Int))) (chk (decide (0 ≤ t16_b ∧ t16_b < (l0.length : Int))) (chk (decide (p1 ≠ (0 : Int))) (cond ((Int.tmod (w64 ((l0.getD t16_b.toNat (0 : Int)) + (w64 (p2)))) p1) == x6_a) (chk (small (out5_b.length + 1) 8) ((l53cb N l0 p1 p2 x6_a rec_l53ca n (w64 (t16_b + (1 : Int))) (out5_b ++ ([x6_a] : List Int)))))
      ((l53cb N l0 p1 p2 x6_a rec_l53ca n (w64 (t16_b + (1 : Int))) out5_b)))))
      ((rec_l53ca (w64 (x6_a + (1 : Int))) out5_b))
theorem wl53cb (N : Nat) (l0 : List Int) (p1 : Int) (p2 : Int) (x6_a : Int) (T53c_0 : TS → Option (List Int × Int × Int)) (m : Nat) (t16_b : Int) (out5_b : List Int) : R53c_1 N T53c_0 (m + 1) (Sl53cb l0 p1 p2 x6_a t16_b out5_b) = cond (decide (t16_b < (l0.length : Int))) (chk (decide (0 ≤ t16_b ∧ t16_b < (l0.length : Int))) (chk (decide (p1 ≠ (0 : Int))) (cond ((Int.tmod (w64 ((l0.getD t16_b.toNat (0 : Int)) + (w64 (p2)))) p1) == x6_a) (chk (small (out5_b.length + 1) 8) ((R53c_1 N T53c_0 m (Sl53cb l0 p1 p2 x6_a (w64 (t16_b + (1 : Int))) (out5_b ++ ([x6_a] : List Int))))))
      ((R53c_1 N T53c_0 m (Sl53cb l0 p1 p2 x6_a (w64 (t16_b + (1 : Int))) out5_b))))))
      ((T53c_0 (Sl53ca l0 p1 p2 (w64 (x6_a + (1 : Int))) out5_b))) := by kernel_rfl
theorem ql53cb (N : Nat) (l0 : List Int) (p1 : Int) (p2 : Int) (x6_a : Int) (T53c_0 : TS → Option (List Int × Int × Int)) : ∀ (m : Nat) (t16_b : Int) (out5_b : List Int), R53c_1 N T53c_0 m (Sl53cb l0 p1 p2 x6_a t16_b out5_b) = l53cb N l0 p1 p2 x6_a (fun y0 y1 => T53c_0 (Sl53ca l0 p1 p2 y0 y1)) m t16_b out5_b
        | 0, _, _ => rfl
        | m + 1, t16_b, out5_b => by rw [wl53cb]; simp only [l53cb, ql53cb N l0 p1 p2 x6_a T53c_0 m]
def l53ca (N : Nat) (l0 : List Int) (p1 : Int) (p2 : Int) : Nat → Int → (List Int) → Option (List Int × Int × Int)
  | 0, _, _ => none
  | n + 1, x6_a, out5_a => cond (decide (x6_a < p1)) ((l53cb N l0 p1 p2 x6_a (fun y0 y1 => (l53ca N l0 p1 p2 n y0 y1)) N (0 : Int) out5_a))
      (some (out5_a, p1, p2))
theorem wl53ca (N : Nat) (l0 : List Int) (p1 : Int) (p2 : Int) (m : Nat) (x6_a : Int) (out5_a : List Int) : R53c_0 N (m + 1) (Sl53ca l0 p1 p2 x6_a out5_a) = cond (decide (x6_a < p1)) ((R53c_1 N (R53c_0 N m) N (Sl53cb l0 p1 p2 x6_a (0 : Int) out5_a)))
      (some (out5_a, p1, p2)) := by kernel_rfl
theorem ql53ca (N : Nat) (l0 : List Int) (p1 : Int) (p2 : Int) : ∀ (m : Nat) (x6_a : Int) (out5_a : List Int), R53c_0 N m (Sl53ca l0 p1 p2 x6_a out5_a) = l53ca N l0 p1 p2 m x6_a out5_a
        | 0, _, _ => rfl
        | m + 1, x6_a, out5_a => by rw [wl53ca]; simp only [l53ca, ql53cb, ql53ca N l0 p1 p2 m]
def m53c (N : Nat) (l0 : List Int) (p1 : Int) (p2 : Int) : Option (List Int × Int × Int) :=
      (l53ca N l0 p1 p2 N (0 : Int) ([] : List Int))
theorem wm53c (N : Nat) (l0 : List Int) (p1 : Int) (p2 : Int) : callF (E53c) lv53c N en53c c53c (resOf Try.f53) 31 [.dv (.sl (.int .i64)) l0, .ptr 9000 0 [0], .ptr 9001 0 [0]] [(9000, .rcd [.dv (.int .i64) p1]), (9001, .rcd [.dv (.int .u8) p2])] dec53c = (R53c_0 N N (Sl53ca l0 p1 p2 (0 : Int) ([] : List Int))) := by kernel_rfl
theorem k53c (N : Nat) (l0 : List Int) (p1 : Int) (p2 : Int) : callF (E53c) lv53c N en53c c53c (resOf Try.f53) 31 [.dv (.sl (.int .i64)) l0, .ptr 9000 0 [0], .ptr 9001 0 [0]] [(9000, .rcd [.dv (.int .i64) p1]), (9001, .rcd [.dv (.int .u8) p2])] dec53c = m53c N l0 p1 p2 := by rw [wm53c]; simp only [m53c, ql53ca]
theorem ok53c (a : (List Int) → Int → Int → Option (List Int × Int × Int)) (h : ∀ l0 p1 p2 r, a l0 p1 p2 = some r → (∃ N, m53c N l0 p1 p2 = some r)) : FnOk Try.prog 53 (F53c a) := by
  intro args Of x hx
  simp only [F53c] at hx
  split at hx
  · rename_i l0 p1 p2
    obtain ⟨N, hN⟩ := h _ _ _ _ hx
    refine lifted (L := []) (rc := nrc) (fz := nfz) (fn := Try.f53) (by kernel_rfl) (by kernel_rfl) (by kernel_rfl) (by kernel_rfl) rfl ?_ ((k53c N _ _ _).trans hN) ?_
    · intro p hp; cases hp
    · intro l o hd
      simp only [dec53c] at hd
      split at hd
      · obtain rfl := Option.some.inj hd; exact ⟨rfl, rfl⟩
      · cases hd
  · cases hx
def E14 (a16 : Option (Bool)) (a21 : (List Int) → (List Int) → Option (Bool)) (a33 : Int → (List (List Int × List Int × Unit)) → Int → Int → Option (List Int × Int)) (a48 : (Int × List (List Int) × Unit) → Option (Int × List (List Int × List Int × Unit))) (a53c : (List Int) → Int → Int → Option (List Int × Int × Int)) : Env := mkE TI TY [(16, F16 a16), (21, F21 a21), (33, F33 a33), (48, F48 a48), (53, F53c a53c)] nrc nfz
noncomputable def c14 : Code := bodyOf Try.f14
def nm14_0 : Norm := ⟨[6, 9, 10, 11, 12, 13, 38, 39, 40], [6, 9], [(.slot 14, 1014, .pair (.sl (.int .i64)) (.pair (.sl (.int .i64)) (.unit))), (.slot 15, 1015, .pair (.sl (.int .i64)) (.pair (.sl (.int .i64)) (.unit)))], []⟩
def nm14_1 : Norm := ⟨[18, 20, 137, 138], [], [], []⟩
def lv14 : Nat → Option Norm := norms [(8, nm14_0), (20, nm14_1)]
def en14 : End := ⟨[], ⟨[153], [], [], []⟩⟩
def dec14 (l : List TV) (o : List (Nat × TO)) : Option (Bool) := match l, o with | [.dv (.bool) x0], [] => some (x0) | _, _ => none
noncomputable def K14_0 (a16 : Option (Bool)) (a21 : (List Int) → (List Int) → Option (Bool)) (a33 : Int → (List (List Int × List Int × Unit)) → Int → Int → Option (List Int × Int)) (a48 : (Int × List (List Int) × Unit) → Option (Int × List (List Int × List Int × Unit))) (a53c : (List Int) → Int → Int → Option (List Int × Int × Int)) (N : Nat) : Kont (Bool) := kont (E14 a16 a21 a33 a48 a53c) lv14 N c14 [1, 1, 1, 1, 1, 1, 0, 1, 0] (fin TI en14 (resOf Try.f14) dec14)
noncomputable def R14_0 (a16 : Option (Bool)) (a21 : (List Int) → (List Int) → Option (Bool)) (a33 : Int → (List (List Int × List Int × Unit)) → Int → Int → Option (List Int × Int)) (a48 : (Int × List (List Int) × Unit) → Option (Int × List (List Int × List Int × Unit))) (a53c : (List Int) → Int → Int → Option (List Int × Int × Int)) (N : Nat) (m : Nat) : TS → Option (Bool) := loopK (den (E14 a16 a21 a33 a48 a53c) lv14 N (sub c14 [1, 1, 1, 1, 1, 1, 0, 1, 0, 0])) (TS.norm nm14_0) (K14_0 a16 a21 a33 a48 a53c N) m
noncomputable def K14_1 (a16 : Option (Bool)) (a21 : (List Int) → (List Int) → Option (Bool)) (a33 : Int → (List (List Int × List Int × Unit)) → Int → Int → Option (List Int × Int)) (a48 : (Int × List (List Int) × Unit) → Option (Int × List (List Int × List Int × Unit))) (a53c : (List Int) → Int → Int → Option (List Int × Int × Int)) (N : Nat) : Kont (Bool) := kont (E14 a16 a21 a33 a48 a53c) lv14 N c14 [1, 1, 1, 1, 1, 1, 1, 1, 1, 1, 1, 1, 0, 1, 0] (fin TI en14 (resOf Try.f14) dec14)
noncomputable def R14_1 (a16 : Option (Bool)) (a21 : (List Int) → (List Int) → Option (Bool)) (a33 : Int → (List (List Int × List Int × Unit)) → Int → Int → Option (List Int × Int)) (a48 : (Int × List (List Int) × Unit) → Option (Int × List (List Int × List Int × Unit))) (a53c : (List Int) → Int → Int → Option (List Int × Int × Int)) (N : Nat) (m : Nat) : TS → Option (Bool) := loopK (den (E14 a16 a21 a33 a48 a53c) lv14 N (sub c14 [1, 1, 1, 1, 1, 1, 1, 1, 1, 1, 1, 1, 0, 1, 0, 0])) (TS.norm nm14_1) (K14_1 a16 a21 a33 a48 a53c N) m
def Sl14b (r4 : List Int × Int) (r5 : List Int × Int) (t138_b : Int) : TS := ⟨slots 153 [(18, .dv (.sl (.int .i64)) r4.1), (20, .dv (.sl (.int .i64)) r5.1), (137, .dv (.int .i64) (r4.1.length : Int)), (138, .dv (.int .i64) t138_b)], []⟩
def Sl14a (odd1 : Int) (r1 : Int × List (List Int × List Int × Unit)) (way12_a : Int) (t40_a : Int) (other14_a : List (List Int × List Int × Unit)) (turned15_a : List (List Int × List Int × Unit)) (o6_af0 : Int) (o9_af0 : Int) : TS := ⟨slots 153 [(6, .ptr 6 0 [0]), (9, .ptr 9 0 [0]), (10, .dv (.sl (.pair (.sl (.int .i64)) (.pair (.sl (.int .i64)) (.unit)))) r1.2), (11, .dv (.int .i64) (Int.tmod (w64 (odd1)) r1.1)), (12, .dv (.int .i64) way12_a), (13, .fn 53 0 2 fun i => ([.ptr 9 0 [0], .ptr 6 0 [0]] : List TV).getD i .any), (14, .row 1014), (15, .row 1015), (38, .dv (.sl (.pair (.sl (.int .i64)) (.pair (.sl (.int .i64)) (.unit)))) r1.2), (39, .dv (.int .i64) (r1.2.length : Int)), (40, .dv (.int .i64) t40_a)], [(1014, .row (.pair (.sl (.int .i64)) (.pair (.sl (.int .i64)) (.unit))) other14_a), (1015, .row (.pair (.sl (.int .i64)) (.pair (.sl (.int .i64)) (.unit))) turned15_a), (6, .rcd [.dv (.int .u8) o6_af0]), (9, .rcd [.dv (.int .i64) o9_af0])]⟩
def l14b (a16 : Option (Bool)) (a21 : (List Int) → (List Int) → Option (Bool)) (a33 : Int → (List (List Int × List Int × Unit)) → Int → Int → Option (List Int × Int)) (a48 : (Int × List (List Int) × Unit) → Option (Int × List (List Int × List Int × Unit))) (a53c : (List Int) → Int → Int → Option (List Int × Int × Int)) (N : Nat) (r4 : List Int × Int) (r5 : List Int × Int) : Nat → Int → Option (Bool)
  | 0, _ => none
  | n + 1, t138_b => cond (decide (t138_b < (r4.1.length : Int))) (chk (decide (0 ≤ t138_b ∧ t138_b < (r4.1.length : Int))) (chk (decide (0 ≤ t138_b ∧ t138_b < (r5.1.length : Int))) (cond ((r4.1.getD t138_b.toNat (0 : Int)) != (w64 (0 - (r5.1.getD t138_b.toNat (0 : Int))))) (some false)
      ((l14b a16 a21 a33 a48 a53c N r4 r5 n (w64 (t138_b + (1 : Int))))))))
      ((a16).bind fun r10 =>
      some r10)
theorem wl14b (a16 : Option (Bool)) (a21 : (List Int) → (List Int) → Option (Bool)) (a33 : Int → (List (List Int × List Int × Unit)) → Int → Int → Option (List Int × Int)) (a48 : (Int × List (List Int) × Unit) → Option (Int × List (List Int × List Int × Unit))) (a53c : (List Int) → Int → Int → Option (List Int × Int × Int)) (N : Nat) (r4 : List Int × Int) (r5 : List Int × Int) (m : Nat) (t138_b : Int) : R14_1 a16 a21 a33 a48 a53c N (m + 1) (Sl14b r4 r5 t138_b) = cond (decide (t138_b < (r4.1.length : Int))) (chk (decide (0 ≤ t138_b ∧ t138_b < (r4.1.length : Int))) (chk (decide (0 ≤ t138_b ∧ t138_b < (r5.1.length : Int))) (cond ((r4.1.getD t138_b.toNat (0 : Int)) != (w64 (0 - (r5.1.getD t138_b.toNat (0 : Int))))) (some false)
      ((R14_1 a16 a21 a33 a48 a53c N m (Sl14b r4 r5 (w64 (t138_b + (1 : Int)))))))))
      ((a16).bind fun r10 =>
      some r10) := by kernel_rfl
theorem ql14b (a16 : Option (Bool)) (a21 : (List Int) → (List Int) → Option (Bool)) (a33 : Int → (List (List Int × List Int × Unit)) → Int → Int → Option (List Int × Int)) (a48 : (Int × List (List Int) × Unit) → Option (Int × List (List Int × List Int × Unit))) (a53c : (List Int) → Int → Int → Option (List Int × Int × Int)) (N : Nat) (r4 : List Int × Int) (r5 : List Int × Int) : ∀ (m : Nat) (t138_b : Int), R14_1 a16 a21 a33 a48 a53c N m (Sl14b r4 r5 t138_b) = l14b a16 a21 a33 a48 a53c N r4 r5 m t138_b
        | 0, _ => rfl
        | m + 1, t138_b => by rw [wl14b]; simp only [l14b, ql14b a16 a21 a33 a48 a53c N r4 r5 m]
def l14a (a16 : Option (Bool)) (a21 : (List Int) → (List Int) → Option (Bool)) (a33 : Int → (List (List Int × List Int × Unit)) → Int → Int → Option (List Int × Int)) (a48 : (Int × List (List Int) × Unit) → Option (Int × List (List Int × List Int × Unit))) (a53c : (List Int) → Int → Int → Option (List Int × Int × Int)) (N : Nat) (odd1 : Int) (r1 : Int × List (List Int × List Int × Unit)) : Nat → Int → Int → (List (List Int × List Int × Unit)) → (List (List Int × List Int × Unit)) → Int → Int → Option (Bool)
  | 0, _, _, _, _, _, _ => none
  | n + 1, way12_a, t40_a, other14_a, turned15_a, o6_af0, o9_af0 => cond (decide (t40_a < (r1.2.length : Int))) (chk (decide (0 ≤ t40_a ∧ t40_a < (r1.2.length : Int))) (chk (small (other14_a.length + 1) 48) ((a53c ((r1.2.getD t40_a.toNat (([] : List Int), (([] : List Int), ()))).1) o9_af0 o6_af0).bind fun r2 =>
      (a53c (((r1.2.getD t40_a.toNat (([] : List Int), (([] : List Int), ()))).2).1) r2.2.1 r2.2.2).bind fun r3 =>
      chk (small (turned15_a.length + 1) 48) ((l14a a16 a21 a33 a48 a53c N odd1 r1 n way12_a (w64 (t40_a + (1 : Int))) (other14_a ++ ([(((r1.2.getD t40_a.toNat (([] : List Int), (([] : List Int), ()))).2).1, ((r1.2.getD t40_a.toNat (([] : List Int), (([] : List Int), ()))).1, ()))] : List (List Int × List Int × Unit))) (turned15_a ++ ([(r2.1, (r3.1, ()))] : List (List Int × List Int × Unit))) r3.2.2 r3.2.1)))))
      ((a33 o9_af0 r1.2 (Int.tmod (w64 (odd1)) r1.1) way12_a).bind fun r4 =>
      (a33 o9_af0 other14_a (Int.tmod (w64 (odd1)) r1.1) way12_a).bind fun r5 =>
      (a33 o9_af0 r1.2 (Int.tmod (w64 (odd1)) r1.1) (w64 (0 - way12_a))).bind fun r6 =>
      chk (decide (o9_af0 ≠ (0 : Int))) ((a33 o9_af0 turned15_a (Int.tmod (w64 ((Int.tmod (w64 (odd1)) r1.1) + (w64 (o6_af0)))) o9_af0) way12_a).bind fun r7 =>
      cond (r4.2 != (0 : Int)) (some false)
      (cond (r5.2 != (0 : Int)) (some false)
      (cond (r6.2 != (0 : Int)) (some false)
      (cond (r7.2 != (0 : Int)) (some false)
      ((a21 r5.1 r6.1).bind fun r8 =>
      cond (!r8) (some false)
      ((a21 r4.1 r7.1).bind fun r9 =>
      cond (!r9) (some false)
      (cond ((r4.1.length : Int) != (r5.1.length : Int)) (some false)
      ((l14b a16 a21 a33 a48 a53c N r4 r5 N (0 : Int)))))))))))
theorem wl14a (a16 : Option (Bool)) (a21 : (List Int) → (List Int) → Option (Bool)) (a33 : Int → (List (List Int × List Int × Unit)) → Int → Int → Option (List Int × Int)) (a48 : (Int × List (List Int) × Unit) → Option (Int × List (List Int × List Int × Unit))) (a53c : (List Int) → Int → Int → Option (List Int × Int × Int)) (N : Nat) (odd1 : Int) (r1 : Int × List (List Int × List Int × Unit)) (m : Nat) (way12_a : Int) (t40_a : Int) (other14_a : List (List Int × List Int × Unit)) (turned15_a : List (List Int × List Int × Unit)) (o6_af0 : Int) (o9_af0 : Int) : R14_0 a16 a21 a33 a48 a53c N (m + 1) (Sl14a odd1 r1 way12_a t40_a other14_a turned15_a o6_af0 o9_af0) = cond (decide (t40_a < (r1.2.length : Int))) (chk (decide (0 ≤ t40_a ∧ t40_a < (r1.2.length : Int))) (chk (small (other14_a.length + 1) 48) ((a53c ((r1.2.getD t40_a.toNat (([] : List Int), (([] : List Int), ()))).1) o9_af0 o6_af0).bind fun r2 =>
      (a53c (((r1.2.getD t40_a.toNat (([] : List Int), (([] : List Int), ()))).2).1) r2.2.1 r2.2.2).bind fun r3 =>
      chk (small (turned15_a.length + 1) 48) ((R14_0 a16 a21 a33 a48 a53c N m (Sl14a odd1 r1 way12_a (w64 (t40_a + (1 : Int))) (other14_a ++ ([(((r1.2.getD t40_a.toNat (([] : List Int), (([] : List Int), ()))).2).1, ((r1.2.getD t40_a.toNat (([] : List Int), (([] : List Int), ()))).1, ()))] : List (List Int × List Int × Unit))) (turned15_a ++ ([(r2.1, (r3.1, ()))] : List (List Int × List Int × Unit))) r3.2.2 r3.2.1))))))
      ((a33 o9_af0 r1.2 (Int.tmod (w64 (odd1)) r1.1) way12_a).bind fun r4 =>
      (a33 o9_af0 other14_a (Int.tmod (w64 (odd1)) r1.1) way12_a).bind fun r5 =>
      (a33 o9_af0 r1.2 (Int.tmod (w64 (odd1)) r1.1) (w64 (0 - way12_a))).bind fun r6 =>
      chk (decide (o9_af0 ≠ (0 : Int))) ((a33 o9_af0 turned15_a (Int.tmod (w64 ((Int.tmod (w64 (odd1)) r1.1) + (w64 (o6_af0)))) o9_af0) way12_a).bind fun r7 =>
      cond (r4.2 != (0 : Int)) (some false)
      (cond (r5.2 != (0 : Int)) (some false)
      (cond (r6.2 != (0 : Int)) (some false)
      (cond (r7.2 != (0 : Int)) (some false)
      ((a21 r5.1 r6.1).bind fun r8 =>
      cond (!r8) (some false)
      ((a21 r4.1 r7.1).bind fun r9 =>
      cond (!r9) (some false)
      (cond ((r4.1.length : Int) != (r5.1.length : Int)) (some false)
      ((R14_1 a16 a21 a33 a48 a53c N N (Sl14b r4 r5 (0 : Int)))))))))))) := by kernel_rfl
theorem ql14a (a16 : Option (Bool)) (a21 : (List Int) → (List Int) → Option (Bool)) (a33 : Int → (List (List Int × List Int × Unit)) → Int → Int → Option (List Int × Int)) (a48 : (Int × List (List Int) × Unit) → Option (Int × List (List Int × List Int × Unit))) (a53c : (List Int) → Int → Int → Option (List Int × Int × Int)) (N : Nat) (odd1 : Int) (r1 : Int × List (List Int × List Int × Unit)) : ∀ (m : Nat) (way12_a : Int) (t40_a : Int) (other14_a : List (List Int × List Int × Unit)) (turned15_a : List (List Int × List Int × Unit)) (o6_af0 : Int) (o9_af0 : Int), R14_0 a16 a21 a33 a48 a53c N m (Sl14a odd1 r1 way12_a t40_a other14_a turned15_a o6_af0 o9_af0) = l14a a16 a21 a33 a48 a53c N odd1 r1 m way12_a t40_a other14_a turned15_a o6_af0 o9_af0
        | 0, _, _, _, _, _, _ => rfl
        | m + 1, way12_a, t40_a, other14_a, turned15_a, o6_af0, o9_af0 => by rw [wl14a]; simp only [l14a, ql14b, ql14a a16 a21 a33 a48 a53c N odd1 r1 m]
def m14 (a16 : Option (Bool)) (a21 : (List Int) → (List Int) → Option (Bool)) (a33 : Int → (List (List Int × List Int × Unit)) → Int → Int → Option (List Int × Int)) (a48 : (Int × List (List Int) × Unit) → Option (Int × List (List Int × List Int × Unit))) (a53c : (List Int) → Int → Int → Option (List Int × Int × Int)) (N : Nat) (b0 : Int × List (List Int) × Unit) (odd1 : Int) (turn2 : Int) (heavy3 : Bool) : Option (Bool) :=
      (a48 b0).bind fun r1 =>
      chk (decide (r1.1 ≠ (0 : Int))) (cond (heavy3) ((l14a a16 a21 a33 a48 a53c N odd1 r1 N (1 : Int) (0 : Int) ([] : List (List Int × List Int × Unit)) ([] : List (List Int × List Int × Unit)) turn2 r1.1))
      ((l14a a16 a21 a33 a48 a53c N odd1 r1 N (-1 : Int) (0 : Int) ([] : List (List Int × List Int × Unit)) ([] : List (List Int × List Int × Unit)) turn2 r1.1)))
theorem wm14 (a16 : Option (Bool)) (a21 : (List Int) → (List Int) → Option (Bool)) (a33 : Int → (List (List Int × List Int × Unit)) → Int → Int → Option (List Int × Int)) (a48 : (Int × List (List Int) × Unit) → Option (Int × List (List Int × List Int × Unit))) (a53c : (List Int) → Int → Int → Option (List Int × Int × Int)) (N : Nat) (b0 : Int × List (List Int) × Unit) (odd1 : Int) (turn2 : Int) (heavy3 : Bool) : callF (E14 a16 a21 a33 a48 a53c) lv14 N en14 c14 (resOf Try.f14) 149 [.dv (.pair (.int .u8) (.pair (.sl (.arr 9 (.int .u8))) (.unit))) b0, .dv (.int .u8) odd1, .dv (.int .u8) turn2, .dv (.bool) heavy3] [] dec14 = (a48 b0).bind fun r1 =>
      chk (decide (r1.1 ≠ (0 : Int))) (cond (heavy3) ((R14_0 a16 a21 a33 a48 a53c N N (Sl14a odd1 r1 (1 : Int) (0 : Int) ([] : List (List Int × List Int × Unit)) ([] : List (List Int × List Int × Unit)) turn2 r1.1)))
      ((R14_0 a16 a21 a33 a48 a53c N N (Sl14a odd1 r1 (-1 : Int) (0 : Int) ([] : List (List Int × List Int × Unit)) ([] : List (List Int × List Int × Unit)) turn2 r1.1)))) := by kernel_rfl
theorem k14 (a16 : Option (Bool)) (a21 : (List Int) → (List Int) → Option (Bool)) (a33 : Int → (List (List Int × List Int × Unit)) → Int → Int → Option (List Int × Int)) (a48 : (Int × List (List Int) × Unit) → Option (Int × List (List Int × List Int × Unit))) (a53c : (List Int) → Int → Int → Option (List Int × Int × Int)) (N : Nat) (b0 : Int × List (List Int) × Unit) (odd1 : Int) (turn2 : Int) (heavy3 : Bool) : callF (E14 a16 a21 a33 a48 a53c) lv14 N en14 c14 (resOf Try.f14) 149 [.dv (.pair (.int .u8) (.pair (.sl (.arr 9 (.int .u8))) (.unit))) b0, .dv (.int .u8) odd1, .dv (.int .u8) turn2, .dv (.bool) heavy3] [] dec14 = m14 a16 a21 a33 a48 a53c N b0 odd1 turn2 heavy3 := by rw [wm14]; simp only [m14, ql14a]
theorem ok14 (a16 : Option (Bool)) (a21 : (List Int) → (List Int) → Option (Bool)) (a33 : Int → (List (List Int × List Int × Unit)) → Int → Int → Option (List Int × Int)) (a48 : (Int × List (List Int) × Unit) → Option (Int × List (List Int × List Int × Unit))) (a53c : (List Int) → Int → Int → Option (List Int × Int × Int)) (h16 : FnOk Try.prog 16 (F16 a16)) (h21 : FnOk Try.prog 21 (F21 a21)) (h33 : FnOk Try.prog 33 (F33 a33)) (h48 : FnOk Try.prog 48 (F48 a48)) (h53c : FnOk Try.prog 53 (F53c a53c)) (a : (Int × List (List Int) × Unit) → Int → Int → Bool → Option (Bool)) (h : ∀ b0 odd1 turn2 heavy3 r, a b0 odd1 turn2 heavy3 = some r → (∃ N, m14 a16 a21 a33 a48 a53c N b0 odd1 turn2 heavy3 = some r)) : FnOk Try.prog 14 (F14 a) := by
  intro args Of x hx
  simp only [F14] at hx
  split at hx
  · rename_i b0 odd1 turn2 heavy3
    obtain ⟨N, hN⟩ := h _ _ _ _ _ hx
    refine lifted (L := [(16, F16 a16), (21, F21 a21), (33, F33 a33), (48, F48 a48), (53, F53c a53c)]) (rc := nrc) (fz := nfz) (fn := Try.f14) (by kernel_rfl) (by kernel_rfl) (by kernel_rfl) (by kernel_rfl) rfl ?_ ((k14 a16 a21 a33 a48 a53c N _ _ _ _).trans hN) ?_
    · intro p hp; simp only [List.mem_cons, List.not_mem_nil, or_false] at hp; rcases hp with rfl | rfl | rfl | rfl | rfl
      · exact h16
      · exact h21
      · exact h33
      · exact h48
      · exact h53c
    · intro l o hd
      simp only [dec14] at hd
      split at hd
      · obtain rfl := Option.some.inj hd; exact ⟨rfl, rfl⟩
      · cases hd
  · cases hx
end Go.Proofs.Ytjcgjbdlgmbepaa
