import Derived.Test.YtbblnbolabpfmaaQFI
namespace Go.Proofs.Ytbblnbolabpfmaa
open Go.RowKit
set_option linter.unusedVariables false
def E9 (a14 : Option (Bool)) (a40 : (List (List Int)) → Option (List (Int × Int × Unit))) (a42 : (List (Int × Int × Unit)) → Int → Option (Bool)) (a43 : Int → Option (List Int)) (a46c : Int → (List (Int × Int × Unit)) → Option (Bool)) : Env := mkE TI TY [(14, F14 a14), (40, F40 a40), (42, F42 a42), (43, F43 a43), (46, F46c a46c)] (fun i => ([(3, [some (.sl (.pair (.int .i64) (.pair (.int .i64) (.unit))))])] : List (Nat × List (Option DT))).lookup i) nfz
noncomputable def c9 : Code := bodyOf Try.f9
def nm9_0 : Norm := ⟨[3, 4, 5], [], [], []⟩
def nm9_1 : Norm := ⟨[3, 4, 5, 37, 38], [], [], []⟩
def nm9_2 : Norm := ⟨[3, 4, 5, 7], [], [], []⟩
def nm9_3 : Norm := ⟨[3, 4, 5, 7, 8, 70, 71], [], [], []⟩
def lv9 : Nat → Option Norm := norms [(5, nm9_0), (11, nm9_1), (17, nm9_2), (22, nm9_3), (1000003, ⟨[], [3], [], []⟩)]
def en9 : End := ⟨[], ⟨[101], [], [], []⟩⟩
def dec9 (l : List TV) (o : List (Nat × TO)) : Option (Bool) := match l, o with | [.dv (.bool) x0], [] => some (x0) | _, _ => none
noncomputable def K9_0 (a14 : Option (Bool)) (a40 : (List (List Int)) → Option (List (Int × Int × Unit))) (a42 : (List (Int × Int × Unit)) → Int → Option (Bool)) (a43 : Int → Option (List Int)) (a46c : Int → (List (Int × Int × Unit)) → Option (Bool)) (N : Nat) : Kont (Bool) := kont (E9 a14 a40 a42 a43 a46c) lv9 N c9 [1, 1, 1, 1, 0, 1, 0] (fin TI en9 (resOf Try.f9) dec9)
noncomputable def R9_0 (a14 : Option (Bool)) (a40 : (List (List Int)) → Option (List (Int × Int × Unit))) (a42 : (List (Int × Int × Unit)) → Int → Option (Bool)) (a43 : Int → Option (List Int)) (a46c : Int → (List (Int × Int × Unit)) → Option (Bool)) (N : Nat) (m : Nat) : TS → Option (Bool) := loopK (den (E9 a14 a40 a42 a43 a46c) lv9 N (sub c9 [1, 1, 1, 1, 0, 1, 0, 0])) (TS.norm nm9_0) (K9_0 a14 a40 a42 a43 a46c N) m
noncomputable def K9_1 (a14 : Option (Bool)) (a40 : (List (List Int)) → Option (List (Int × Int × Unit))) (a42 : (List (Int × Int × Unit)) → Int → Option (Bool)) (a43 : Int → Option (List Int)) (a46c : Int → (List (Int × Int × Unit)) → Option (Bool)) (N : Nat) (T9_0 : TS → Option (Bool)) : Kont (Bool) := kont (E9 a14 a40 a42 a43 a46c) lv9 N (sub c9 [1, 1, 1, 1, 0, 1, 0, 0]) [1, 0, 0, 1, 1, 0, 1, 0] (kloop (TS.norm nm9_0) (K9_0 a14 a40 a42 a43 a46c N) T9_0)
noncomputable def R9_1 (a14 : Option (Bool)) (a40 : (List (List Int)) → Option (List (Int × Int × Unit))) (a42 : (List (Int × Int × Unit)) → Int → Option (Bool)) (a43 : Int → Option (List Int)) (a46c : Int → (List (Int × Int × Unit)) → Option (Bool)) (N : Nat) (T9_0 : TS → Option (Bool)) (m : Nat) : TS → Option (Bool) := loopK (den (E9 a14 a40 a42 a43 a46c) lv9 N (sub c9 [1, 1, 1, 1, 0, 1, 0, 0, 1, 0, 0, 1, 1, 0, 1, 0, 0])) (TS.norm nm9_1) (K9_1 a14 a40 a42 a43 a46c N T9_0) m
noncomputable def K9_2 (a14 : Option (Bool)) (a40 : (List (List Int)) → Option (List (Int × Int × Unit))) (a42 : (List (Int × Int × Unit)) → Int → Option (Bool)) (a43 : Int → Option (List Int)) (a46c : Int → (List (Int × Int × Unit)) → Option (Bool)) (N : Nat) (T9_0 : TS → Option (Bool)) : Kont (Bool) := kont (E9 a14 a40 a42 a43 a46c) lv9 N (sub c9 [1, 1, 1, 1, 0, 1, 0, 0]) [1, 0, 0, 1, 1, 1, 1, 0] (kloop (TS.norm nm9_0) (K9_0 a14 a40 a42 a43 a46c N) T9_0)
noncomputable def R9_2 (a14 : Option (Bool)) (a40 : (List (List Int)) → Option (List (Int × Int × Unit))) (a42 : (List (Int × Int × Unit)) → Int → Option (Bool)) (a43 : Int → Option (List Int)) (a46c : Int → (List (Int × Int × Unit)) → Option (Bool)) (N : Nat) (T9_0 : TS → Option (Bool)) (m : Nat) : TS → Option (Bool) := loopK (den (E9 a14 a40 a42 a43 a46c) lv9 N (sub c9 [1, 1, 1, 1, 0, 1, 0, 0, 1, 0, 0, 1, 1, 1, 1, 0, 0])) (TS.norm nm9_2) (K9_2 a14 a40 a42 a43 a46c N T9_0) m
noncomputable def K9_3 (a14 : Option (Bool)) (a40 : (List (List Int)) → Option (List (Int × Int × Unit))) (a42 : (List (Int × Int × Unit)) → Int → Option (Bool)) (a43 : Int → Option (List Int)) (a46c : Int → (List (Int × Int × Unit)) → Option (Bool)) (N : Nat) (T9_0 : TS → Option (Bool)) (T9_2 : TS → Option (Bool)) : Kont (Bool) := kont (E9 a14 a40 a42 a43 a46c) lv9 N (sub c9 [1, 1, 1, 1, 0, 1, 0, 0, 1, 0, 0, 1, 1, 1, 1, 0, 0]) [1, 0, 0, 1, 1, 0, 1, 0] (kloop (TS.norm nm9_2) (K9_2 a14 a40 a42 a43 a46c N T9_0) T9_2)
noncomputable def R9_3 (a14 : Option (Bool)) (a40 : (List (List Int)) → Option (List (Int × Int × Unit))) (a42 : (List (Int × Int × Unit)) → Int → Option (Bool)) (a43 : Int → Option (List Int)) (a46c : Int → (List (Int × Int × Unit)) → Option (Bool)) (N : Nat) (T9_0 : TS → Option (Bool)) (T9_2 : TS → Option (Bool)) (m : Nat) : TS → Option (Bool) := loopK (den (E9 a14 a40 a42 a43 a46c) lv9 N (sub c9 [1, 1, 1, 1, 0, 1, 0, 0, 1, 0, 0, 1, 1, 1, 1, 0, 0, 1, 0, 0, 1, 1, 0, 1, 0, 0])) (TS.norm nm9_3) (K9_3 a14 a40 a42 a43 a46c N T9_0 T9_2) m
def Sl9d (r1 : List (Int × Int × Unit)) (a5_a : Int) (b7_c : Int) (found8_d : Bool) (t71_d : Int) : TS := ⟨slots 101 [(3, .el (.sl (.pair (.int .i64) (.pair (.int .i64) (.unit)))) (r1.take ((imin (r1.length : Int) (5 : Int)).toNat)) []), (4, .fn 46 0 1 fun i => ([.el (.sl (.pair (.int .i64) (.pair (.int .i64) (.unit)))) (r1.take ((imin (r1.length : Int) (5 : Int)).toNat)) []] : List TV).getD i .any), (5, .dv (.int .i64) a5_a), (7, .dv (.int .i64) b7_c), (8, .dv (.bool) found8_d), (70, .dv (.int .i64) ((r1.take ((imin (r1.length : Int) (5 : Int)).toNat)).length : Int)), (71, .dv (.int .i64) t71_d)], []⟩
def Sl9c (r1 : List (Int × Int × Unit)) (a5_a : Int) (b7_c : Int) : TS := ⟨slots 101 [(3, .el (.sl (.pair (.int .i64) (.pair (.int .i64) (.unit)))) (r1.take ((imin (r1.length : Int) (5 : Int)).toNat)) []), (4, .fn 46 0 1 fun i => ([.el (.sl (.pair (.int .i64) (.pair (.int .i64) (.unit)))) (r1.take ((imin (r1.length : Int) (5 : Int)).toNat)) []] : List TV).getD i .any), (5, .dv (.int .i64) a5_a), (7, .dv (.int .i64) b7_c)], []⟩
def Sl9b (r1 : List (Int × Int × Unit)) (a5_a : Int) (t38_b : Int) : TS := ⟨slots 101 [(3, .el (.sl (.pair (.int .i64) (.pair (.int .i64) (.unit)))) (r1.take ((imin (r1.length : Int) (5 : Int)).toNat)) []), (4, .fn 46 0 1 fun i => ([.el (.sl (.pair (.int .i64) (.pair (.int .i64) (.unit)))) (r1.take ((imin (r1.length : Int) (5 : Int)).toNat)) []] : List TV).getD i .any), (5, .dv (.int .i64) a5_a), (37, .dv (.int .i64) ((r1.take ((imin (r1.length : Int) (5 : Int)).toNat)).length : Int)), (38, .dv (.int .i64) t38_b)], []⟩
def Sl9a (r1 : List (Int × Int × Unit)) (a5_a : Int) : TS := ⟨slots 101 [(3, .el (.sl (.pair (.int .i64) (.pair (.int .i64) (.unit)))) (r1.take ((imin (r1.length : Int) (5 : Int)).toNat)) []), (4, .fn 46 0 1 fun i => ([.el (.sl (.pair (.int .i64) (.pair (.int .i64) (.unit)))) (r1.take ((imin (r1.length : Int) (5 : Int)).toNat)) []] : List TV).getD i .any), (5, .dv (.int .i64) a5_a)], []⟩
def l9d (a14 : Option (Bool)) (a40 : (List (List Int)) → Option (List (Int × Int × Unit))) (a42 : (List (Int × Int × Unit)) → Int → Option (Bool)) (a43 : Int → Option (List Int)) (a46c : Int → (List (Int × Int × Unit)) → Option (Bool)) (N : Nat) (r1 : List (Int × Int × Unit)) (a5_a : Int) (b7_c : Int) (rec_l9c : Int → Option (Bool)) : Nat → Bool → Int → Option (Bool)
  | 0, _, _ => none
  | n + 1, found8_d, t71_d => cond (decide (t71_d < ((r1.take ((imin (r1.length : Int) (5 : Int)).toNat)).length : Int))) (cond (found8_d) ((l9d a14 a40 a42 a43 a46c N r1 a5_a b7_c rec_l9c n true (w64 (t71_d + (1 : Int)))))
      (chk (decide (0 ≤ t71_d)) (cond ((bAnd .i64 (Int.fdiv b7_c (2 ^ min (Int.toNat t71_d) 64)) (1 : Int)) == (1 : Int)) (chk (decide (0 ≤ t71_d)) (cond ((bAnd .i64 (Int.fdiv a5_a (2 ^ min (Int.toNat t71_d) 64)) (1 : Int)) == (0 : Int)) (chk (decide (0 ≤ t71_d)) ((a46c (bOr .i64 a5_a (IntKind.wrap .i64 ((1 : Int) * 2 ^ min (Int.toNat t71_d) 64))) (r1.take ((imin (r1.length : Int) (5 : Int)).toNat))).bind fun r9 =>
      (l9d a14 a40 a42 a43 a46c N r1 a5_a b7_c rec_l9c n r9 (w64 (t71_d + (1 : Int))))))
      ((l9d a14 a40 a42 a43 a46c N r1 a5_a b7_c rec_l9c n false (w64 (t71_d + (1 : Int)))))))
      ((l9d a14 a40 a42 a43 a46c N r1 a5_a b7_c rec_l9c n false (w64 (t71_d + (1 : Int))))))))
      (cond (!found8_d) (some false)
      ((rec_l9c (w64 (b7_c + (1 : Int))))))
theorem wl9d (a14 : Option (Bool)) (a40 : (List (List Int)) → Option (List (Int × Int × Unit))) (a42 : (List (Int × Int × Unit)) → Int → Option (Bool)) (a43 : Int → Option (List Int)) (a46c : Int → (List (Int × Int × Unit)) → Option (Bool)) (N : Nat) (r1 : List (Int × Int × Unit)) (a5_a : Int) (b7_c : Int) (T9_0 : TS → Option (Bool)) (T9_2 : TS → Option (Bool)) (m : Nat) (found8_d : Bool) (t71_d : Int) : R9_3 a14 a40 a42 a43 a46c N T9_0 T9_2 (m + 1) (Sl9d r1 a5_a b7_c found8_d t71_d) = cond (decide (t71_d < ((r1.take ((imin (r1.length : Int) (5 : Int)).toNat)).length : Int))) (cond (found8_d) ((R9_3 a14 a40 a42 a43 a46c N T9_0 T9_2 m (Sl9d r1 a5_a b7_c true (w64 (t71_d + (1 : Int))))))
      (chk (decide (0 ≤ t71_d)) (cond ((bAnd .i64 (Int.fdiv b7_c (2 ^ min (Int.toNat t71_d) 64)) (1 : Int)) == (1 : Int)) (chk (decide (0 ≤ t71_d)) (cond ((bAnd .i64 (Int.fdiv a5_a (2 ^ min (Int.toNat t71_d) 64)) (1 : Int)) == (0 : Int)) (chk (decide (0 ≤ t71_d)) ((a46c (bOr .i64 a5_a (IntKind.wrap .i64 ((1 : Int) * 2 ^ min (Int.toNat t71_d) 64))) (r1.take ((imin (r1.length : Int) (5 : Int)).toNat))).bind fun r9 =>
      (R9_3 a14 a40 a42 a43 a46c N T9_0 T9_2 m (Sl9d r1 a5_a b7_c r9 (w64 (t71_d + (1 : Int)))))))
      ((R9_3 a14 a40 a42 a43 a46c N T9_0 T9_2 m (Sl9d r1 a5_a b7_c false (w64 (t71_d + (1 : Int))))))))
      ((R9_3 a14 a40 a42 a43 a46c N T9_0 T9_2 m (Sl9d r1 a5_a b7_c false (w64 (t71_d + (1 : Int)))))))))
      (cond (!found8_d) (some false)
      ((T9_2 (Sl9c r1 a5_a (w64 (b7_c + (1 : Int))))))) := by kernel_rfl
theorem ql9d (a14 : Option (Bool)) (a40 : (List (List Int)) → Option (List (Int × Int × Unit))) (a42 : (List (Int × Int × Unit)) → Int → Option (Bool)) (a43 : Int → Option (List Int)) (a46c : Int → (List (Int × Int × Unit)) → Option (Bool)) (N : Nat) (r1 : List (Int × Int × Unit)) (a5_a : Int) (b7_c : Int) (T9_0 : TS → Option (Bool)) (T9_2 : TS → Option (Bool)) : ∀ (m : Nat) (found8_d : Bool) (t71_d : Int), R9_3 a14 a40 a42 a43 a46c N T9_0 T9_2 m (Sl9d r1 a5_a b7_c found8_d t71_d) = l9d a14 a40 a42 a43 a46c N r1 a5_a b7_c (fun y0 => T9_2 (Sl9c r1 a5_a y0)) m found8_d t71_d
        | 0, _, _ => rfl
        | m + 1, found8_d, t71_d => by rw [wl9d]; simp only [l9d, ql9d a14 a40 a42 a43 a46c N r1 a5_a b7_c T9_0 T9_2 m]
def l9c (a14 : Option (Bool)) (a40 : (List (List Int)) → Option (List (Int × Int × Unit))) (a42 : (List (Int × Int × Unit)) → Int → Option (Bool)) (a43 : Int → Option (List Int)) (a46c : Int → (List (Int × Int × Unit)) → Option (Bool)) (N : Nat) (r1 : List (Int × Int × Unit)) (a5_a : Int) (rec_l9a : Int → Option (Bool)) : Nat → Int → Option (Bool)
  | 0, _ => none
  | n + 1, b7_c => chk (decide (0 ≤ ((r1.take ((imin (r1.length : Int) (5 : Int)).toNat)).length : Int))) (cond (decide (b7_c < (IntKind.wrap .i64 ((1 : Int) * 2 ^ min (Int.toNat ((r1.take ((imin (r1.length : Int) (5 : Int)).toNat)).length : Int)) 64)))) ((a43 b7_c).bind fun r6 =>
      (a43 a5_a).bind fun r7 =>
      cond (decide ((r6.length : Int) ≤ (r7.length : Int))) ((l9c a14 a40 a42 a43 a46c N r1 a5_a rec_l9a n (w64 (b7_c + (1 : Int)))))
      ((a46c b7_c (r1.take ((imin (r1.length : Int) (5 : Int)).toNat))).bind fun r8 =>
      cond (!r8) ((l9c a14 a40 a42 a43 a46c N r1 a5_a rec_l9a n (w64 (b7_c + (1 : Int)))))
      ((l9d a14 a40 a42 a43 a46c N r1 a5_a b7_c (fun y0 => (l9c a14 a40 a42 a43 a46c N r1 a5_a rec_l9a n y0)) N false (0 : Int)))))
      ((rec_l9a (w64 (a5_a + (1 : Int))))))
theorem wl9c (a14 : Option (Bool)) (a40 : (List (List Int)) → Option (List (Int × Int × Unit))) (a42 : (List (Int × Int × Unit)) → Int → Option (Bool)) (a43 : Int → Option (List Int)) (a46c : Int → (List (Int × Int × Unit)) → Option (Bool)) (N : Nat) (r1 : List (Int × Int × Unit)) (a5_a : Int) (T9_0 : TS → Option (Bool)) (m : Nat) (b7_c : Int) : R9_2 a14 a40 a42 a43 a46c N T9_0 (m + 1) (Sl9c r1 a5_a b7_c) = chk (decide (0 ≤ ((r1.take ((imin (r1.length : Int) (5 : Int)).toNat)).length : Int))) (cond (decide (b7_c < (IntKind.wrap .i64 ((1 : Int) * 2 ^ min (Int.toNat ((r1.take ((imin (r1.length : Int) (5 : Int)).toNat)).length : Int)) 64)))) ((a43 b7_c).bind fun r6 =>
      (a43 a5_a).bind fun r7 =>
      cond (decide ((r6.length : Int) ≤ (r7.length : Int))) ((R9_2 a14 a40 a42 a43 a46c N T9_0 m (Sl9c r1 a5_a (w64 (b7_c + (1 : Int))))))
      ((a46c b7_c (r1.take ((imin (r1.length : Int) (5 : Int)).toNat))).bind fun r8 =>
      cond (!r8) ((R9_2 a14 a40 a42 a43 a46c N T9_0 m (Sl9c r1 a5_a (w64 (b7_c + (1 : Int))))))
      ((R9_3 a14 a40 a42 a43 a46c N T9_0 (R9_2 a14 a40 a42 a43 a46c N T9_0 m) N (Sl9d r1 a5_a b7_c false (0 : Int))))))
      ((T9_0 (Sl9a r1 (w64 (a5_a + (1 : Int))))))) := by kernel_rfl
theorem ql9c (a14 : Option (Bool)) (a40 : (List (List Int)) → Option (List (Int × Int × Unit))) (a42 : (List (Int × Int × Unit)) → Int → Option (Bool)) (a43 : Int → Option (List Int)) (a46c : Int → (List (Int × Int × Unit)) → Option (Bool)) (N : Nat) (r1 : List (Int × Int × Unit)) (a5_a : Int) (T9_0 : TS → Option (Bool)) : ∀ (m : Nat) (b7_c : Int), R9_2 a14 a40 a42 a43 a46c N T9_0 m (Sl9c r1 a5_a b7_c) = l9c a14 a40 a42 a43 a46c N r1 a5_a (fun y0 => T9_0 (Sl9a r1 y0)) m b7_c
        | 0, _ => rfl
        | m + 1, b7_c => by rw [wl9c]; simp only [l9c, ql9d, ql9c a14 a40 a42 a43 a46c N r1 a5_a T9_0 m]
def l9b (a14 : Option (Bool)) (a40 : (List (List Int)) → Option (List (Int × Int × Unit))) (a42 : (List (Int × Int × Unit)) → Int → Option (Bool)) (a43 : Int → Option (List Int)) (a46c : Int → (List (Int × Int × Unit)) → Option (Bool)) (N : Nat) (r1 : List (Int × Int × Unit)) (a5_a : Int) (rec_l9a : Int → Option (Bool)) : Nat → Int → Option (Bool)
  | 0, _ => none
  | n + 1, t38_b => cond (decide (t38_b < ((r1.take ((imin (r1.length : Int) (5 : Int)).toNat)).length : Int))) (chk (decide (0 ≤ t38_b)) ((a46c (bAndNot .i64 a5_a (IntKind.wrap .i64 ((1 : Int) * 2 ^ min (Int.toNat t38_b) 64))) (r1.take ((imin (r1.length : Int) (5 : Int)).toNat))).bind fun r5 =>
      cond (!r5) (some false)
      ((l9b a14 a40 a42 a43 a46c N r1 a5_a rec_l9a n (w64 (t38_b + (1 : Int)))))))
      ((l9c a14 a40 a42 a43 a46c N r1 a5_a rec_l9a N (0 : Int)))
theorem wl9b (a14 : Option (Bool)) (a40 : (List (List Int)) → Option (List (Int × Int × Unit))) (a42 : (List (Int × Int × Unit)) → Int → Option (Bool)) (a43 : Int → Option (List Int)) (a46c : Int → (List (Int × Int × Unit)) → Option (Bool)) (N : Nat) (r1 : List (Int × Int × Unit)) (a5_a : Int) (T9_0 : TS → Option (Bool)) (m : Nat) (t38_b : Int) : R9_1 a14 a40 a42 a43 a46c N T9_0 (m + 1) (Sl9b r1 a5_a t38_b) = cond (decide (t38_b < ((r1.take ((imin (r1.length : Int) (5 : Int)).toNat)).length : Int))) (chk (decide (0 ≤ t38_b)) ((a46c (bAndNot .i64 a5_a (IntKind.wrap .i64 ((1 : Int) * 2 ^ min (Int.toNat t38_b) 64))) (r1.take ((imin (r1.length : Int) (5 : Int)).toNat))).bind fun r5 =>
      cond (!r5) (some false)
      ((R9_1 a14 a40 a42 a43 a46c N T9_0 m (Sl9b r1 a5_a (w64 (t38_b + (1 : Int))))))))
      ((R9_2 a14 a40 a42 a43 a46c N T9_0 N (Sl9c r1 a5_a (0 : Int)))) := by kernel_rfl
theorem ql9b (a14 : Option (Bool)) (a40 : (List (List Int)) → Option (List (Int × Int × Unit))) (a42 : (List (Int × Int × Unit)) → Int → Option (Bool)) (a43 : Int → Option (List Int)) (a46c : Int → (List (Int × Int × Unit)) → Option (Bool)) (N : Nat) (r1 : List (Int × Int × Unit)) (a5_a : Int) (T9_0 : TS → Option (Bool)) : ∀ (m : Nat) (t38_b : Int), R9_1 a14 a40 a42 a43 a46c N T9_0 m (Sl9b r1 a5_a t38_b) = l9b a14 a40 a42 a43 a46c N r1 a5_a (fun y0 => T9_0 (Sl9a r1 y0)) m t38_b
        | 0, _ => rfl
        | m + 1, t38_b => by rw [wl9b]; simp only [l9b, ql9c, ql9b a14 a40 a42 a43 a46c N r1 a5_a T9_0 m]
def l9a (a14 : Option (Bool)) (a40 : (List (List Int)) → Option (List (Int × Int × Unit))) (a42 : (List (Int × Int × Unit)) → Int → Option (Bool)) (a43 : Int → Option (List Int)) (a46c : Int → (List (Int × Int × Unit)) → Option (Bool)) (N : Nat) (r1 : List (Int × Int × Unit)) : Nat → Int → Option (Bool)
  | 0, _ => none
  | n + 1, a5_a => chk (decide (0 ≤ ((r1.take ((imin (r1.length : Int) (5 : Int)).toNat)).length : Int))) (cond (decide (a5_a < (IntKind.wrap .i64 ((1 : Int) * 2 ^ min (Int.toNat ((r1.take ((imin (r1.length : Int) (5 : Int)).toNat)).length : Int)) 64)))) ((a46c a5_a (r1.take ((imin (r1.length : Int) (5 : Int)).toNat))).bind fun r2 =>
      (a42 (r1.take ((imin (r1.length : Int) (5 : Int)).toNat)) a5_a).bind fun r3 =>
      cond (r2 != r3) (some false)
      ((a46c a5_a (r1.take ((imin (r1.length : Int) (5 : Int)).toNat))).bind fun r4 =>
      cond (!r4) ((l9a a14 a40 a42 a43 a46c N r1 n (w64 (a5_a + (1 : Int)))))
      ((l9b a14 a40 a42 a43 a46c N r1 a5_a (fun y0 => (l9a a14 a40 a42 a43 a46c N r1 n y0)) N (0 : Int)))))
      ((a14).bind fun r10 =>
      some r10))
theorem wl9a (a14 : Option (Bool)) (a40 : (List (List Int)) → Option (List (Int × Int × Unit))) (a42 : (List (Int × Int × Unit)) → Int → Option (Bool)) (a43 : Int → Option (List Int)) (a46c : Int → (List (Int × Int × Unit)) → Option (Bool)) (N : Nat) (r1 : List (Int × Int × Unit)) (m : Nat) (a5_a : Int) : R9_0 a14 a40 a42 a43 a46c N (m + 1) (Sl9a r1 a5_a) = chk (decide (0 ≤ ((r1.take ((imin (r1.length : Int) (5 : Int)).toNat)).length : Int))) (cond (decide (a5_a < (IntKind.wrap .i64 ((1 : Int) * 2 ^ min (Int.toNat ((r1.take ((imin (r1.length : Int) (5 : Int)).toNat)).length : Int)) 64)))) ((a46c a5_a (r1.take ((imin (r1.length : Int) (5 : Int)).toNat))).bind fun r2 =>
      (a42 (r1.take ((imin (r1.length : Int) (5 : Int)).toNat)) a5_a).bind fun r3 =>
      cond (r2 != r3) (some false)
      ((a46c a5_a (r1.take ((imin (r1.length : Int) (5 : Int)).toNat))).bind fun r4 =>
      cond (!r4) ((R9_0 a14 a40 a42 a43 a46c N m (Sl9a r1 (w64 (a5_a + (1 : Int))))))
      ((R9_1 a14 a40 a42 a43 a46c N (R9_0 a14 a40 a42 a43 a46c N m) N (Sl9b r1 a5_a (0 : Int))))))
      ((a14).bind fun r10 =>
      some r10)) := by kernel_rfl
theorem ql9a (a14 : Option (Bool)) (a40 : (List (List Int)) → Option (List (Int × Int × Unit))) (a42 : (List (Int × Int × Unit)) → Int → Option (Bool)) (a43 : Int → Option (List Int)) (a46c : Int → (List (Int × Int × Unit)) → Option (Bool)) (N : Nat) (r1 : List (Int × Int × Unit)) : ∀ (m : Nat) (a5_a : Int), R9_0 a14 a40 a42 a43 a46c N m (Sl9a r1 a5_a) = l9a a14 a40 a42 a43 a46c N r1 m a5_a
        | 0, _ => rfl
        | m + 1, a5_a => by rw [wl9a]; simp only [l9a, ql9b, ql9a a14 a40 a42 a43 a46c N r1 m]
def m9 (a14 : Option (Bool)) (a40 : (List (List Int)) → Option (List (Int × Int × Unit))) (a42 : (List (Int × Int × Unit)) → Int → Option (Bool)) (a43 : Int → Option (List Int)) (a46c : Int → (List (Int × Int × Unit)) → Option (Bool)) (N : Nat) (d0 : List (List Int)) : Option (Bool) :=
      (a40 d0).bind fun r1 =>
      chk (decide (0 ≤ imin (r1.length : Int) (5 : Int) ∧ imin (r1.length : Int) (5 : Int) ≤ (r1.length : Int))) ((l9a a14 a40 a42 a43 a46c N r1 N (0 : Int)))
theorem wm9 (a14 : Option (Bool)) (a40 : (List (List Int)) → Option (List (Int × Int × Unit))) (a42 : (List (Int × Int × Unit)) → Int → Option (Bool)) (a43 : Int → Option (List Int)) (a46c : Int → (List (Int × Int × Unit)) → Option (Bool)) (N : Nat) (d0 : List (List Int)) : callF (E9 a14 a40 a42 a43 a46c) lv9 N en9 c9 (resOf Try.f9) 100 [.dv (.sl (.arr 2 (.int .u8))) d0] [] dec9 = (a40 d0).bind fun r1 =>
      chk (decide (0 ≤ imin (r1.length : Int) (5 : Int) ∧ imin (r1.length : Int) (5 : Int) ≤ (r1.length : Int))) ((R9_0 a14 a40 a42 a43 a46c N N (Sl9a r1 (0 : Int)))) := by kernel_rfl
theorem k9 (a14 : Option (Bool)) (a40 : (List (List Int)) → Option (List (Int × Int × Unit))) (a42 : (List (Int × Int × Unit)) → Int → Option (Bool)) (a43 : Int → Option (List Int)) (a46c : Int → (List (Int × Int × Unit)) → Option (Bool)) (N : Nat) (d0 : List (List Int)) : callF (E9 a14 a40 a42 a43 a46c) lv9 N en9 c9 (resOf Try.f9) 100 [.dv (.sl (.arr 2 (.int .u8))) d0] [] dec9 = m9 a14 a40 a42 a43 a46c N d0 := by rw [wm9]; simp only [m9, ql9a]
theorem ok9 (a14 : Option (Bool)) (a40 : (List (List Int)) → Option (List (Int × Int × Unit))) (a42 : (List (Int × Int × Unit)) → Int → Option (Bool)) (a43 : Int → Option (List Int)) (a46c : Int → (List (Int × Int × Unit)) → Option (Bool)) (h14 : FnOk Try.prog 14 (F14 a14)) (h40 : FnOk Try.prog 40 (F40 a40)) (h42 : FnOk Try.prog 42 (F42 a42)) (h43 : FnOk Try.prog 43 (F43 a43)) (h46c : FnOk Try.prog 46 (F46c a46c)) (a : (List (List Int)) → Option (Bool)) (h : ∀ d0 r, a d0 = some r → (∃ N, m9 a14 a40 a42 a43 a46c N d0 = some r)) : FnOk Try.prog 9 (F9 a) := by
  intro args Of x hx
  simp only [F9] at hx
  split at hx
  · rename_i d0
    obtain ⟨N, hN⟩ := h _ _ hx
    refine lifted (L := [(14, F14 a14), (40, F40 a40), (42, F42 a42), (43, F43 a43), (46, F46c a46c)]) (rc := (fun i => ([(3, [some (.sl (.pair (.int .i64) (.pair (.int .i64) (.unit))))])] : List (Nat × List (Option DT))).lookup i)) (fz := nfz) (fn := Try.f9) (by kernel_rfl) (by kernel_rfl) (by kernel_rfl) (by kernel_rfl) rfl ?_ ((k9 a14 a40 a42 a43 a46c N _).trans hN) ?_
    · intro p hp; simp only [List.mem_cons, List.not_mem_nil, or_false] at hp; rcases hp with rfl | rfl | rfl | rfl | rfl
      · exact h14
      · exact h40
      · exact h42
      · exact h43
      · exact h46c
    · intro l o hd
      simp only [dec9] at hd
      split at hd
      · obtain rfl := Option.some.inj hd; exact ⟨rfl, rfl⟩
      · cases hd
  · cases hx
end Go.Proofs.Ytbblnbolabpfmaa
