import Derived.Test.YtaioadjcdjmkdaaQFI
namespace Go.Proofs.Ytaioadjcdjmkdaa
open Go.RowKit
set_option linter.unusedVariables false
def E8 (a16 : Option (Bool)) (a17 : (Int × List (List Int) × Unit) → (List Int) → Option (List Int × Int)) (a19 : (Int × List (List Int) × Unit) → (List Int) → (List Bool) → Option (Int × Int)) (a21 : (Int × List (List Int) × Unit) → (List Int) → Option (List Int × Int)) (a23 : (List Int) → (List Int) → Option (Bool)) (a26 : (Int × List (List Int) × Unit) → (List Int) → Int → Option (List Bool × Int)) (a28 : (List Bool) → Option (Int)) (a41 : (Int × List (List Int) × Unit) → Option (Int × List (List Int) × Unit)) (a42 : (Int × List (List Int) × Unit) → (List Int) → Int → Option (List Int)) (a43 : (Int × List (List Int) × Unit) → (List Int) → Option (List Int)) (a44 : (List Int) → Option (List Int)) : Env := mkE TI TY [(16, F16 a16), (17, F17 a17), (19, F19 a19), (21, F21 a21), (23, F23 a23), (26, F26 a26), (28, F28 a28), (41, F41 a41), (42, F42 a42), (43, F43 a43), (44, F44 a44)] nrc nfz
noncomputable def c8 : Code := bodyOf Try.f8
def nm8_0 : Norm := ⟨[7, 8, 9, 12, 13, 15, 104, 105, 106], [7, 1301500], [], []⟩
def nm8_1 : Norm := ⟨[7, 8, 9, 11, 19, 20, 134, 135], [7, 1301500], [], []⟩
def lv8 : Nat → Option Norm := norms [(17, nm8_0), (27, nm8_1)]
def en8 : End := ⟨[], ⟨[183], [], [], []⟩⟩
def dec8 (l : List TV) (o : List (Nat × TO)) : Option (Bool) := match l, o with | [.dv (.bool) x0], [] => some (x0) | _, _ => none
noncomputable def K8_0 (a16 : Option (Bool)) (a17 : (Int × List (List Int) × Unit) → (List Int) → Option (List Int × Int)) (a19 : (Int × List (List Int) × Unit) → (List Int) → (List Bool) → Option (Int × Int)) (a21 : (Int × List (List Int) × Unit) → (List Int) → Option (List Int × Int)) (a23 : (List Int) → (List Int) → Option (Bool)) (a26 : (Int × List (List Int) × Unit) → (List Int) → Int → Option (List Bool × Int)) (a28 : (List Bool) → Option (Int)) (a41 : (Int × List (List Int) × Unit) → Option (Int × List (List Int) × Unit)) (a42 : (Int × List (List Int) × Unit) → (List Int) → Int → Option (List Int)) (a43 : (Int × List (List Int) × Unit) → (List Int) → Option (List Int)) (a44 : (List Int) → Option (List Int)) (N : Nat) : Kont (Bool) := kont (E8 a16 a17 a19 a21 a23 a26 a28 a41 a42 a43 a44) lv8 N c8 [1, 1, 1, 1, 1, 1, 1, 1, 0, 1, 1, 1, 1, 1, 0, 1, 0] (fin TI en8 (resOf Try.f8) dec8)
noncomputable def R8_0 (a16 : Option (Bool)) (a17 : (Int × List (List Int) × Unit) → (List Int) → Option (List Int × Int)) (a19 : (Int × List (List Int) × Unit) → (List Int) → (List Bool) → Option (Int × Int)) (a21 : (Int × List (List Int) × Unit) → (List Int) → Option (List Int × Int)) (a23 : (List Int) → (List Int) → Option (Bool)) (a26 : (Int × List (List Int) × Unit) → (List Int) → Int → Option (List Bool × Int)) (a28 : (List Bool) → Option (Int)) (a41 : (Int × List (List Int) × Unit) → Option (Int × List (List Int) × Unit)) (a42 : (Int × List (List Int) × Unit) → (List Int) → Int → Option (List Int)) (a43 : (Int × List (List Int) × Unit) → (List Int) → Option (List Int)) (a44 : (List Int) → Option (List Int)) (N : Nat) (m : Nat) : TS → Option (Bool) := loopK (den (E8 a16 a17 a19 a21 a23 a26 a28 a41 a42 a43 a44) lv8 N (sub c8 [1, 1, 1, 1, 1, 1, 1, 1, 0, 1, 1, 1, 1, 1, 0, 1, 0, 0])) (TS.norm nm8_0) (K8_0 a16 a17 a19 a21 a23 a26 a28 a41 a42 a43 a44 N) m
noncomputable def K8_1 (a16 : Option (Bool)) (a17 : (Int × List (List Int) × Unit) → (List Int) → Option (List Int × Int)) (a19 : (Int × List (List Int) × Unit) → (List Int) → (List Bool) → Option (Int × Int)) (a21 : (Int × List (List Int) × Unit) → (List Int) → Option (List Int × Int)) (a23 : (List Int) → (List Int) → Option (Bool)) (a26 : (Int × List (List Int) × Unit) → (List Int) → Int → Option (List Bool × Int)) (a28 : (List Bool) → Option (Int)) (a41 : (Int × List (List Int) × Unit) → Option (Int × List (List Int) × Unit)) (a42 : (Int × List (List Int) × Unit) → (List Int) → Int → Option (List Int)) (a43 : (Int × List (List Int) × Unit) → (List Int) → Option (List Int)) (a44 : (List Int) → Option (List Int)) (N : Nat) : Kont (Bool) := kont (E8 a16 a17 a19 a21 a23 a26 a28 a41 a42 a43 a44) lv8 N c8 [1, 1, 1, 1, 1, 1, 1, 1, 1, 1, 1, 0, 1, 0] (fin TI en8 (resOf Try.f8) dec8)
noncomputable def R8_1 (a16 : Option (Bool)) (a17 : (Int × List (List Int) × Unit) → (List Int) → Option (List Int × Int)) (a19 : (Int × List (List Int) × Unit) → (List Int) → (List Bool) → Option (Int × Int)) (a21 : (Int × List (List Int) × Unit) → (List Int) → Option (List Int × Int)) (a23 : (List Int) → (List Int) → Option (Bool)) (a26 : (Int × List (List Int) × Unit) → (List Int) → Int → Option (List Bool × Int)) (a28 : (List Bool) → Option (Int)) (a41 : (Int × List (List Int) × Unit) → Option (Int × List (List Int) × Unit)) (a42 : (Int × List (List Int) × Unit) → (List Int) → Int → Option (List Int)) (a43 : (Int × List (List Int) × Unit) → (List Int) → Option (List Int)) (a44 : (List Int) → Option (List Int)) (N : Nat) (m : Nat) : TS → Option (Bool) := loopK (den (E8 a16 a17 a19 a21 a23 a26 a28 a41 a42 a43 a44) lv8 N (sub c8 [1, 1, 1, 1, 1, 1, 1, 1, 1, 1, 1, 0, 1, 0, 0])) (TS.norm nm8_1) (K8_1 a16 a17 a19 a21 a23 a26 a28 a41 a42 a43 a44 N) m
def Sl8a (r1 : Int × List (List Int) × Unit) (r2 : List Int) (r3 : List Int) (f11_a : Int) (s19_a : List Int) (n20_a : Int) (t135_a : Int) : TS := ⟨slots 183 [(7, .ptr 7 0 []), (8, .dv (.sl (.int .i64)) r2), (9, .row 1301500), (11, .dv (.int .i64) f11_a), (19, .dv (.sl (.int .i64)) s19_a), (20, .dv (.int .i64) n20_a), (134, .dv (.int .i64) (r2.length : Int)), (135, .dv (.int .i64) t135_a)], [(7, .row (.pair (.int .i64) (.pair (.sl (.sl (.int .i64))) (.unit))) ([r1] : List (Int × List (List Int) × Unit))), (1301500, .frz (.int .i64) r3)]⟩
def Sl8b (colour2 : Int) (r1 : Int × List (List Int) × Unit) (r2 : List Int) (r3 : List Int) (r7 : List Bool × Int) (x15_b : Int) (t106_b : Int) : TS := ⟨slots 183 [(7, .ptr 7 0 []), (8, .dv (.sl (.int .i64)) r2), (9, .row 1301500), (12, .dv (.int .i64) (Int.tmod (w64 (colour2)) r1.1)), (13, .dv (.sl (.bool)) r7.1), (15, .dv (.int .i64) x15_b), (104, .dv (.sl (.int .i64)) r2), (105, .dv (.int .i64) (r2.length : Int)), (106, .dv (.int .i64) t106_b)], [(7, .row (.pair (.int .i64) (.pair (.sl (.sl (.int .i64))) (.unit))) ([r1] : List (Int × List (List Int) × Unit))), (1301500, .frz (.int .i64) r3)]⟩
def l8a (a16 : Option (Bool)) (a17 : (Int × List (List Int) × Unit) → (List Int) → Option (List Int × Int)) (a19 : (Int × List (List Int) × Unit) → (List Int) → (List Bool) → Option (Int × Int)) (a21 : (Int × List (List Int) × Unit) → (List Int) → Option (List Int × Int)) (a23 : (List Int) → (List Int) → Option (Bool)) (a26 : (Int × List (List Int) × Unit) → (List Int) → Int → Option (List Bool × Int)) (a28 : (List Bool) → Option (Int)) (a41 : (Int × List (List Int) × Unit) → Option (Int × List (List Int) × Unit)) (a42 : (Int × List (List Int) × Unit) → (List Int) → Int → Option (List Int)) (a43 : (Int × List (List Int) × Unit) → (List Int) → Option (List Int)) (a44 : (List Int) → Option (List Int)) (N : Nat) (r1 : Int × List (List Int) × Unit) (r2 : List Int) (r3 : List Int) : Nat → Int → (List Int) → Int → Int → Option (Bool)
  | 0, _, _, _, _ => none
  | n + 1, f11_a, s19_a, n20_a, t135_a => cond (decide (t135_a < (r2.length : Int))) (chk (decide (0 ≤ t135_a ∧ t135_a ≤ (r2.length : Int))) (chk (small (0 + (r2.take t135_a.toNat).length) 8) (chk (decide (0 ≤ w64 (t135_a + (1 : Int)) ∧ w64 (t135_a + (1 : Int)) ≤ (r2.length : Int))) (chk (small ((([] : List Int) ++ (r2.take t135_a.toNat)).length + (r2.drop ((w64 (t135_a + (1 : Int))).toNat)).length) 8) ((a43 r1 ((([] : List Int) ++ (r2.take t135_a.toNat)) ++ (r2.drop ((w64 (t135_a + (1 : Int))).toNat)))).bind fun r9 =>
      (a44 r9).bind fun r10 =>
      (a44 r3).bind fun r11 =>
      (a23 r10 r11).bind fun r12 =>
      cond (decide (n20_a < (s19_a.length : Int))) (chk (decide (0 ≤ n20_a ∧ n20_a < (s19_a.length : Int))) (cond (r12 != ((s19_a.getD n20_a.toNat (0 : Int)) == t135_a)) (some false)
      (cond (r12) ((l8a a16 a17 a19 a21 a23 a26 a28 a41 a42 a43 a44 N r1 r2 r3 n f11_a s19_a (w64 (n20_a + (1 : Int))) (w64 (t135_a + (1 : Int)))))
      ((l8a a16 a17 a19 a21 a23 a26 a28 a41 a42 a43 a44 N r1 r2 r3 n f11_a s19_a n20_a (w64 (t135_a + (1 : Int))))))))
      (cond (r12 != false) (some false)
      (cond (r12) ((l8a a16 a17 a19 a21 a23 a26 a28 a41 a42 a43 a44 N r1 r2 r3 n f11_a s19_a (w64 (n20_a + (1 : Int))) (w64 (t135_a + (1 : Int)))))
      ((l8a a16 a17 a19 a21 a23 a26 a28 a41 a42 a43 a44 N r1 r2 r3 n f11_a s19_a n20_a (w64 (t135_a + (1 : Int))))))))))))
      (cond (f11_a == (0 : Int)) (cond (n20_a == (s19_a.length : Int)) ((a16).bind fun r13 =>
      some r13)
      (some false))
      (some false))
theorem wl8a (a16 : Option (Bool)) (a17 : (Int × List (List Int) × Unit) → (List Int) → Option (List Int × Int)) (a19 : (Int × List (List Int) × Unit) → (List Int) → (List Bool) → Option (Int × Int)) (a21 : (Int × List (List Int) × Unit) → (List Int) → Option (List Int × Int)) (a23 : (List Int) → (List Int) → Option (Bool)) (a26 : (Int × List (List Int) × Unit) → (List Int) → Int → Option (List Bool × Int)) (a28 : (List Bool) → Option (Int)) (a41 : (Int × List (List Int) × Unit) → Option (Int × List (List Int) × Unit)) (a42 : (Int × List (List Int) × Unit) → (List Int) → Int → Option (List Int)) (a43 : (Int × List (List Int) × Unit) → (List Int) → Option (List Int)) (a44 : (List Int) → Option (List Int)) (N : Nat) (r1 : Int × List (List Int) × Unit) (r2 : List Int) (r3 : List Int) (m : Nat) (f11_a : Int) (s19_a : List Int) (n20_a : Int) (t135_a : Int) : R8_1 a16 a17 a19 a21 a23 a26 a28 a41 a42 a43 a44 N (m + 1) (Sl8a r1 r2 r3 f11_a s19_a n20_a t135_a) = cond (decide (t135_a < (r2.length : Int))) (chk (decide (0 ≤ t135_a ∧ t135_a ≤ (r2.length : Int))) (chk (small (0 + (r2.take t135_a.toNat).length) 8) (chk (decide (0 ≤ w64 (t135_a + (1 : Int)) ∧ w64 (t135_a + (1 : Int)) ≤ (r2.length : Int))) (chk (small ((([] : List Int) ++ (r2.take t135_a.toNat)).length + (r2.drop ((w64 (t135_a + (1 : Int))).toNat)).length) 8) ((a43 r1 ((([] : List Int) ++ (r2.take t135_a.toNat)) ++ (r2.drop ((w64 (t135_a + (1 : Int))).toNat)))).bind fun r9 =>
      (a44 r9).bind fun r10 =>
      (a44 r3).bind fun r11 =>
      (a23 r10 r11).bind fun r12 =>
      cond (decide (n20_a < (s19_a.length : Int))) (chk (decide (0 ≤ n20_a ∧ n20_a < (s19_a.length : Int))) (cond (r12 != ((s19_a.getD n20_a.toNat (0 : Int)) == t135_a)) (some false)
      (cond (r12) ((R8_1 a16 a17 a19 a21 a23 a26 a28 a41 a42 a43 a44 N m (Sl8a r1 r2 r3 f11_a s19_a (w64 (n20_a + (1 : Int))) (w64 (t135_a + (1 : Int))))))
      ((R8_1 a16 a17 a19 a21 a23 a26 a28 a41 a42 a43 a44 N m (Sl8a r1 r2 r3 f11_a s19_a n20_a (w64 (t135_a + (1 : Int)))))))))
      (cond (r12 != false) (some false)
      (cond (r12) ((R8_1 a16 a17 a19 a21 a23 a26 a28 a41 a42 a43 a44 N m (Sl8a r1 r2 r3 f11_a s19_a (w64 (n20_a + (1 : Int))) (w64 (t135_a + (1 : Int))))))
      ((R8_1 a16 a17 a19 a21 a23 a26 a28 a41 a42 a43 a44 N m (Sl8a r1 r2 r3 f11_a s19_a n20_a (w64 (t135_a + (1 : Int)))))))))))))
      (cond (f11_a == (0 : Int)) (cond (n20_a == (s19_a.length : Int)) ((a16).bind fun r13 =>
      some r13)
      (some false))
      (some false)) := by kernel_rfl
theorem ql8a (a16 : Option (Bool)) (a17 : (Int × List (List Int) × Unit) → (List Int) → Option (List Int × Int)) (a19 : (Int × List (List Int) × Unit) → (List Int) → (List Bool) → Option (Int × Int)) (a21 : (Int × List (List Int) × Unit) → (List Int) → Option (List Int × Int)) (a23 : (List Int) → (List Int) → Option (Bool)) (a26 : (Int × List (List Int) × Unit) → (List Int) → Int → Option (List Bool × Int)) (a28 : (List Bool) → Option (Int)) (a41 : (Int × List (List Int) × Unit) → Option (Int × List (List Int) × Unit)) (a42 : (Int × List (List Int) × Unit) → (List Int) → Int → Option (List Int)) (a43 : (Int × List (List Int) × Unit) → (List Int) → Option (List Int)) (a44 : (List Int) → Option (List Int)) (N : Nat) (r1 : Int × List (List Int) × Unit) (r2 : List Int) (r3 : List Int) : ∀ (m : Nat) (f11_a : Int) (s19_a : List Int) (n20_a : Int) (t135_a : Int), R8_1 a16 a17 a19 a21 a23 a26 a28 a41 a42 a43 a44 N m (Sl8a r1 r2 r3 f11_a s19_a n20_a t135_a) = l8a a16 a17 a19 a21 a23 a26 a28 a41 a42 a43 a44 N r1 r2 r3 m f11_a s19_a n20_a t135_a
        | 0, _, _, _, _ => rfl
        | m + 1, f11_a, s19_a, n20_a, t135_a => by rw [wl8a]; simp only [l8a, ql8a a16 a17 a19 a21 a23 a26 a28 a41 a42 a43 a44 N r1 r2 r3 m]
def l8b (a16 : Option (Bool)) (a17 : (Int × List (List Int) × Unit) → (List Int) → Option (List Int × Int)) (a19 : (Int × List (List Int) × Unit) → (List Int) → (List Bool) → Option (Int × Int)) (a21 : (Int × List (List Int) × Unit) → (List Int) → Option (List Int × Int)) (a23 : (List Int) → (List Int) → Option (Bool)) (a26 : (Int × List (List Int) × Unit) → (List Int) → Int → Option (List Bool × Int)) (a28 : (List Bool) → Option (Int)) (a41 : (Int × List (List Int) × Unit) → Option (Int × List (List Int) × Unit)) (a42 : (Int × List (List Int) × Unit) → (List Int) → Int → Option (List Int)) (a43 : (Int × List (List Int) × Unit) → (List Int) → Option (List Int)) (a44 : (List Int) → Option (List Int)) (N : Nat) (colour2 : Int) (r1 : Int × List (List Int) × Unit) (r2 : List Int) (r3 : List Int) (r7 : List Bool × Int) : Nat → Int → Int → Option (Bool)
  | 0, _, _ => none
  | n + 1, x15_b, t106_b => cond (decide (t106_b < (r2.length : Int))) (chk (decide (0 ≤ t106_b ∧ t106_b < (r2.length : Int))) (chk (decide (0 ≤ t106_b ∧ t106_b < (r7.1.length : Int))) (cond (r7.1.getD t106_b.toNat false) (chk (decide (0 ≤ r2.getD t106_b.toNat (0 : Int) ∧ r2.getD t106_b.toNat (0 : Int) < (r1.2.1.length : Int))) (chk (decide (0 ≤ x15_b ∧ x15_b < ((r1.2.1.getD ((r2.getD t106_b.toNat (0 : Int)).toNat) ([] : List Int)).length : Int))) ((l8b a16 a17 a19 a21 a23 a26 a28 a41 a42 a43 a44 N colour2 r1 r2 r3 r7 n ((r1.2.1.getD ((r2.getD t106_b.toNat (0 : Int)).toNat) ([] : List Int)).getD x15_b.toNat (0 : Int)) (w64 (t106_b + (1 : Int)))))))
      ((l8b a16 a17 a19 a21 a23 a26 a28 a41 a42 a43 a44 N colour2 r1 r2 r3 r7 n x15_b (w64 (t106_b + (1 : Int))))))))
      (cond (x15_b != (Int.tmod (w64 (colour2)) r1.1)) (some false)
      ((a21 r1 r2).bind fun r16 =>
      (l8a a16 a17 a19 a21 a23 a26 a28 a41 a42 a43 a44 N r1 r2 r3 N r16.2 r16.1 (0 : Int) (0 : Int))))
theorem wl8b (a16 : Option (Bool)) (a17 : (Int × List (List Int) × Unit) → (List Int) → Option (List Int × Int)) (a19 : (Int × List (List Int) × Unit) → (List Int) → (List Bool) → Option (Int × Int)) (a21 : (Int × List (List Int) × Unit) → (List Int) → Option (List Int × Int)) (a23 : (List Int) → (List Int) → Option (Bool)) (a26 : (Int × List (List Int) × Unit) → (List Int) → Int → Option (List Bool × Int)) (a28 : (List Bool) → Option (Int)) (a41 : (Int × List (List Int) × Unit) → Option (Int × List (List Int) × Unit)) (a42 : (Int × List (List Int) × Unit) → (List Int) → Int → Option (List Int)) (a43 : (Int × List (List Int) × Unit) → (List Int) → Option (List Int)) (a44 : (List Int) → Option (List Int)) (N : Nat) (colour2 : Int) (r1 : Int × List (List Int) × Unit) (r2 : List Int) (r3 : List Int) (r7 : List Bool × Int) (m : Nat) (x15_b : Int) (t106_b : Int) : R8_0 a16 a17 a19 a21 a23 a26 a28 a41 a42 a43 a44 N (m + 1) (Sl8b colour2 r1 r2 r3 r7 x15_b t106_b) = cond (decide (t106_b < (r2.length : Int))) (chk (decide (0 ≤ t106_b ∧ t106_b < (r2.length : Int))) (chk (decide (0 ≤ t106_b ∧ t106_b < (r7.1.length : Int))) (cond (r7.1.getD t106_b.toNat false) (chk (decide (0 ≤ r2.getD t106_b.toNat (0 : Int) ∧ r2.getD t106_b.toNat (0 : Int) < (r1.2.1.length : Int))) (chk (decide (0 ≤ x15_b ∧ x15_b < ((r1.2.1.getD ((r2.getD t106_b.toNat (0 : Int)).toNat) ([] : List Int)).length : Int))) ((R8_0 a16 a17 a19 a21 a23 a26 a28 a41 a42 a43 a44 N m (Sl8b colour2 r1 r2 r3 r7 ((r1.2.1.getD ((r2.getD t106_b.toNat (0 : Int)).toNat) ([] : List Int)).getD x15_b.toNat (0 : Int)) (w64 (t106_b + (1 : Int))))))))
      ((R8_0 a16 a17 a19 a21 a23 a26 a28 a41 a42 a43 a44 N m (Sl8b colour2 r1 r2 r3 r7 x15_b (w64 (t106_b + (1 : Int)))))))))
      (cond (x15_b != (Int.tmod (w64 (colour2)) r1.1)) (some false)
      ((a21 r1 r2).bind fun r16 =>
      (R8_1 a16 a17 a19 a21 a23 a26 a28 a41 a42 a43 a44 N N (Sl8a r1 r2 r3 r16.2 r16.1 (0 : Int) (0 : Int))))) := by kernel_rfl
theorem ql8b (a16 : Option (Bool)) (a17 : (Int × List (List Int) × Unit) → (List Int) → Option (List Int × Int)) (a19 : (Int × List (List Int) × Unit) → (List Int) → (List Bool) → Option (Int × Int)) (a21 : (Int × List (List Int) × Unit) → (List Int) → Option (List Int × Int)) (a23 : (List Int) → (List Int) → Option (Bool)) (a26 : (Int × List (List Int) × Unit) → (List Int) → Int → Option (List Bool × Int)) (a28 : (List Bool) → Option (Int)) (a41 : (Int × List (List Int) × Unit) → Option (Int × List (List Int) × Unit)) (a42 : (Int × List (List Int) × Unit) → (List Int) → Int → Option (List Int)) (a43 : (Int × List (List Int) × Unit) → (List Int) → Option (List Int)) (a44 : (List Int) → Option (List Int)) (N : Nat) (colour2 : Int) (r1 : Int × List (List Int) × Unit) (r2 : List Int) (r3 : List Int) (r7 : List Bool × Int) : ∀ (m : Nat) (x15_b : Int) (t106_b : Int), R8_0 a16 a17 a19 a21 a23 a26 a28 a41 a42 a43 a44 N m (Sl8b colour2 r1 r2 r3 r7 x15_b t106_b) = l8b a16 a17 a19 a21 a23 a26 a28 a41 a42 a43 a44 N colour2 r1 r2 r3 r7 m x15_b t106_b
        | 0, _, _ => rfl
        | m + 1, x15_b, t106_b => by rw [wl8b]; simp only [l8b, ql8a, ql8b a16 a17 a19 a21 a23 a26 a28 a41 a42 a43 a44 N colour2 r1 r2 r3 r7 m]
def m8 (a16 : Option (Bool)) (a17 : (Int × List (List Int) × Unit) → (List Int) → Option (List Int × Int)) (a19 : (Int × List (List Int) × Unit) → (List Int) → (List Bool) → Option (Int × Int)) (a21 : (Int × List (List Int) × Unit) → (List Int) → Option (List Int × Int)) (a23 : (List Int) → (List Int) → Option (Bool)) (a26 : (Int × List (List Int) × Unit) → (List Int) → Int → Option (List Bool × Int)) (a28 : (List Bool) → Option (Int)) (a41 : (Int × List (List Int) × Unit) → Option (Int × List (List Int) × Unit)) (a42 : (Int × List (List Int) × Unit) → (List Int) → Int → Option (List Int)) (a43 : (Int × List (List Int) × Unit) → (List Int) → Option (List Int)) (a44 : (List Int) → Option (List Int)) (N : Nat) (e0 : Int × List (List Int) × Unit) (by1 : List Int) (colour2 : Int) : Option (Bool) :=
      (a41 e0).bind fun r1 =>
      (a42 r1 by1 (7 : Int)).bind fun r2 =>
      (a43 r1 r2).bind fun r3 =>
      (a17 r1 r2).bind fun r4 =>
      cond (r4.2 != (0 : Int)) (some false)
      ((a44 r3).bind fun r5 =>
      (a23 r4.1 r5).bind fun r6 =>
      cond (!r6) (some false)
      (chk (decide (r1.1 ≠ (0 : Int))) ((a26 r1 r2 (Int.tmod (w64 (colour2)) r1.1)).bind fun r7 =>
      chk (decide (0 ≤ Int.tmod (w64 (colour2)) r1.1 ∧ Int.tmod (w64 (colour2)) r1.1 < (r3.length : Int))) (cond (decide ((r3.getD ((Int.tmod (w64 (colour2)) r1.1).toNat) (0 : Int)) < (0 : Int))) (cond (r7.2 != (14 : Int)) (some false)
      (cond (decide ((r7.1.length : Int) > (0 : Int))) (some false)
      ((a21 r1 r2).bind fun r8 =>
      (l8a a16 a17 a19 a21 a23 a26 a28 a41 a42 a43 a44 N r1 r2 r3 N r8.2 r8.1 (0 : Int) (0 : Int)))))
      ((a19 r1 r2 r7.1).bind fun r14 =>
      cond (r7.2 != (0 : Int)) (some false)
      (cond ((r7.1.length : Int) != (r2.length : Int)) (some false)
      ((a28 r7.1).bind fun r15 =>
      chk (decide (0 ≤ Int.tmod (w64 (colour2)) r1.1 ∧ Int.tmod (w64 (colour2)) r1.1 < (r3.length : Int))) (cond (r15 != (r3.getD ((Int.tmod (w64 (colour2)) r1.1).toNat) (0 : Int))) (some false)
      (cond (r14.2 != (0 : Int)) (some false)
      (cond (r14.1 != (Int.tmod (w64 (colour2)) r1.1)) (some false)
      ((l8b a16 a17 a19 a21 a23 a26 a28 a41 a42 a43 a44 N colour2 r1 r2 r3 r7 N (0 : Int) (0 : Int)))))))))))))
theorem wm8 (a16 : Option (Bool)) (a17 : (Int × List (List Int) × Unit) → (List Int) → Option (List Int × Int)) (a19 : (Int × List (List Int) × Unit) → (List Int) → (List Bool) → Option (Int × Int)) (a21 : (Int × List (List Int) × Unit) → (List Int) → Option (List Int × Int)) (a23 : (List Int) → (List Int) → Option (Bool)) (a26 : (Int × List (List Int) × Unit) → (List Int) → Int → Option (List Bool × Int)) (a28 : (List Bool) → Option (Int)) (a41 : (Int × List (List Int) × Unit) → Option (Int × List (List Int) × Unit)) (a42 : (Int × List (List Int) × Unit) → (List Int) → Int → Option (List Int)) (a43 : (Int × List (List Int) × Unit) → (List Int) → Option (List Int)) (a44 : (List Int) → Option (List Int)) (N : Nat) (e0 : Int × List (List Int) × Unit) (by1 : List Int) (colour2 : Int) : callF (E8 a16 a17 a19 a21 a23 a26 a28 a41 a42 a43 a44) lv8 N en8 c8 (resOf Try.f8) 180 [.dv (.pair (.int .u8) (.pair (.sl (.arr 5 (.int .u8))) (.unit))) e0, .dv (.sl (.int .u8)) by1, .dv (.int .u8) colour2] [] dec8 = (a41 e0).bind fun r1 =>
      (a42 r1 by1 (7 : Int)).bind fun r2 =>
      (a43 r1 r2).bind fun r3 =>
      (a17 r1 r2).bind fun r4 =>
      cond (r4.2 != (0 : Int)) (some false)
      ((a44 r3).bind fun r5 =>
      (a23 r4.1 r5).bind fun r6 =>
      cond (!r6) (some false)
      (chk (decide (r1.1 ≠ (0 : Int))) ((a26 r1 r2 (Int.tmod (w64 (colour2)) r1.1)).bind fun r7 =>
      chk (decide (0 ≤ Int.tmod (w64 (colour2)) r1.1 ∧ Int.tmod (w64 (colour2)) r1.1 < (r3.length : Int))) (cond (decide ((r3.getD ((Int.tmod (w64 (colour2)) r1.1).toNat) (0 : Int)) < (0 : Int))) (cond (r7.2 != (14 : Int)) (some false)
      (cond (decide ((r7.1.length : Int) > (0 : Int))) (some false)
      ((a21 r1 r2).bind fun r8 =>
      (R8_1 a16 a17 a19 a21 a23 a26 a28 a41 a42 a43 a44 N N (Sl8a r1 r2 r3 r8.2 r8.1 (0 : Int) (0 : Int))))))
      ((a19 r1 r2 r7.1).bind fun r14 =>
      cond (r7.2 != (0 : Int)) (some false)
      (cond ((r7.1.length : Int) != (r2.length : Int)) (some false)
      ((a28 r7.1).bind fun r15 =>
      chk (decide (0 ≤ Int.tmod (w64 (colour2)) r1.1 ∧ Int.tmod (w64 (colour2)) r1.1 < (r3.length : Int))) (cond (r15 != (r3.getD ((Int.tmod (w64 (colour2)) r1.1).toNat) (0 : Int))) (some false)
      (cond (r14.2 != (0 : Int)) (some false)
      (cond (r14.1 != (Int.tmod (w64 (colour2)) r1.1)) (some false)
      ((R8_0 a16 a17 a19 a21 a23 a26 a28 a41 a42 a43 a44 N N (Sl8b colour2 r1 r2 r3 r7 (0 : Int) (0 : Int)))))))))))))) := by kernel_rfl
theorem k8 (a16 : Option (Bool)) (a17 : (Int × List (List Int) × Unit) → (List Int) → Option (List Int × Int)) (a19 : (Int × List (List Int) × Unit) → (List Int) → (List Bool) → Option (Int × Int)) (a21 : (Int × List (List Int) × Unit) → (List Int) → Option (List Int × Int)) (a23 : (List Int) → (List Int) → Option (Bool)) (a26 : (Int × List (List Int) × Unit) → (List Int) → Int → Option (List Bool × Int)) (a28 : (List Bool) → Option (Int)) (a41 : (Int × List (List Int) × Unit) → Option (Int × List (List Int) × Unit)) (a42 : (Int × List (List Int) × Unit) → (List Int) → Int → Option (List Int)) (a43 : (Int × List (List Int) × Unit) → (List Int) → Option (List Int)) (a44 : (List Int) → Option (List Int)) (N : Nat) (e0 : Int × List (List Int) × Unit) (by1 : List Int) (colour2 : Int) : callF (E8 a16 a17 a19 a21 a23 a26 a28 a41 a42 a43 a44) lv8 N en8 c8 (resOf Try.f8) 180 [.dv (.pair (.int .u8) (.pair (.sl (.arr 5 (.int .u8))) (.unit))) e0, .dv (.sl (.int .u8)) by1, .dv (.int .u8) colour2] [] dec8 = m8 a16 a17 a19 a21 a23 a26 a28 a41 a42 a43 a44 N e0 by1 colour2 := by rw [wm8]; simp only [m8, ql8a, ql8b]
theorem ok8 (a16 : Option (Bool)) (a17 : (Int × List (List Int) × Unit) → (List Int) → Option (List Int × Int)) (a19 : (Int × List (List Int) × Unit) → (List Int) → (List Bool) → Option (Int × Int)) (a21 : (Int × List (List Int) × Unit) → (List Int) → Option (List Int × Int)) (a23 : (List Int) → (List Int) → Option (Bool)) (a26 : (Int × List (List Int) × Unit) → (List Int) → Int → Option (List Bool × Int)) (a28 : (List Bool) → Option (Int)) (a41 : (Int × List (List Int) × Unit) → Option (Int × List (List Int) × Unit)) (a42 : (Int × List (List Int) × Unit) → (List Int) → Int → Option (List Int)) (a43 : (Int × List (List Int) × Unit) → (List Int) → Option (List Int)) (a44 : (List Int) → Option (List Int)) (h16 : FnOk Try.prog 16 (F16 a16)) (h17 : FnOk Try.prog 17 (F17 a17)) (h19 : FnOk Try.prog 19 (F19 a19)) (h21 : FnOk Try.prog 21 (F21 a21)) (h23 : FnOk Try.prog 23 (F23 a23)) (h26 : FnOk Try.prog 26 (F26 a26)) (h28 : FnOk Try.prog 28 (F28 a28)) (h41 : FnOk Try.prog 41 (F41 a41)) (h42 : FnOk Try.prog 42 (F42 a42)) (h43 : FnOk Try.prog 43 (F43 a43)) (h44 : FnOk Try.prog 44 (F44 a44)) (a : (Int × List (List Int) × Unit) → (List Int) → Int → Option (Bool)) (h : ∀ e0 by1 colour2 r, a e0 by1 colour2 = some r → (∃ N, m8 a16 a17 a19 a21 a23 a26 a28 a41 a42 a43 a44 N e0 by1 colour2 = some r)) : FnOk Try.prog 8 (F8 a) := by
  intro args Of x hx
  simp only [F8] at hx
  split at hx
  · rename_i e0 by1 colour2
    obtain ⟨N, hN⟩ := h _ _ _ _ hx
    refine lifted (L := [(16, F16 a16), (17, F17 a17), (19, F19 a19), (21, F21 a21), (23, F23 a23), (26, F26 a26), (28, F28 a28), (41, F41 a41), (42, F42 a42), (43, F43 a43), (44, F44 a44)]) (rc := nrc) (fz := nfz) (fn := Try.f8) (by kernel_rfl) (by kernel_rfl) (by kernel_rfl) (by kernel_rfl) rfl ?_ ((k8 a16 a17 a19 a21 a23 a26 a28 a41 a42 a43 a44 N _ _ _).trans hN) ?_
    · intro p hp; simp only [List.mem_cons, List.not_mem_nil, or_false] at hp; rcases hp with rfl | rfl | rfl | rfl | rfl | rfl | rfl | rfl | rfl | rfl | rfl
      · exact h16
      · exact h17
      · exact h19
      · exact h21
      · exact h23
      · exact h26
      · exact h28
      · exact h41
      · exact h42
      · exact h43
      · exact h44
    · intro l o hd
      simp only [dec8] at hd
      split at hd
      · obtain rfl := Option.some.inj hd; exact ⟨rfl, rfl⟩
      · cases hd
  · cases hx
end Go.Proofs.Ytaioadjcdjmkdaa
