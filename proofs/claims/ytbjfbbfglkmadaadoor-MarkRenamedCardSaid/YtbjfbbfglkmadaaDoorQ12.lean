/-
  Functions of the law, told as plain functions.
-/
import Derived.Test.YtbjfbbfglkmadaaDoorQFI
namespace Go.Proofs.YtbjfbbfglkmadaaDoor
open Go.RowKit
set_option linter.unusedVariables false
def E48c : Env := mkE TI TY [] nrc nfz
noncomputable def c48c : Code := bodyOf Tryd.f48
def nm48c_0 : Norm := ⟨[0, 1, 2, 3, 4, 7, 12, 13], [10], [], []⟩
def lv48c : Nat → Option Norm := norms [(3, nm48c_0)]
def en48c : End := ⟨[(38, .sl (.int .i64))], ⟨[38], [], [], []⟩⟩
def dec48c (l : List TV) (o : List (Nat × TO)) : Option (List Int) := match l, o with | [.dv (.sl (.int .i64)) x0], [] => some (x0) | _, _ => none
def Sl48ca (w0 : List Int) (p1 : Int) (p2 : List Int) (p3 : Int × List (List Int) × Unit) (p4 : Int) (t13_a : Int) (o10_a : List Int) : TS := ⟨slots 38 [(0, .dv (.sl (.int .i64)) w0), (1, .el (.int .i64) p1 []), (2, .el (.arr 4 (.int .u8)) p2 []), (3, .el (.pair (.int .i64) (.pair (.sl (.sl (.int .i64))) (.unit))) p3 []), (4, .el (.int .u8) p4 []), (7, .row 10), (12, .dv (.int .i64) (w0.length : Int)), (13, .dv (.int .i64) t13_a)], [(10, .row (.int .i64) o10_a)]⟩
noncomputable def K48c_0 (N : Nat) : Kont (List Int) := kont (E48c) lv48c N c48c [1, 1, 0, 1, 0] (fin TI en48c (resOf Tryd.f48) dec48c)
noncomputable def R48c_0 (N : Nat) (m : Nat) : TS → Option (List Int) := loopK (den (E48c) lv48c N (sub c48c [1, 1, 0, 1, 0, 0])) (TS.norm nm48c_0) (K48c_0 N) m
def l48ca (N : Nat) (w0 : List Int) (p1 : Int) (p2 : List Int) (p3 : Int × List (List Int) × Unit) (p4 : Int) : Nat → Int → (List Int) → Option (List Int)
  | 0, _, _ => none
  | n + 1, t13_a, o10_a => cond (decide (t13_a < (w0.length : Int))) (chk (decide (p1 ≠ (0 : Int))) (chk (decide (0 ≤ t13_a ∧ t13_a < (w0.length : Int))) (chk (decide (0 ≤ t13_a ∧ t13_a < (4 : Int))) (chk (decide (p3.1 ≠ (0 : Int))) (chk (decide (0 ≤ Int.tmod (w64 (t13_a + (w64 (p4)))) p1 ∧ Int.tmod (w64 (t13_a + (w64 (p4)))) p1 < (o10_a.length : Int))) ((l48ca N w0 p1 p2 p3 p4 n (w64 (t13_a + (1 : Int))) (o10_a.set ((Int.tmod (w64 (t13_a + (w64 (p4)))) p1).toNat) (Int.tmod (w64 ((w0.getD t13_a.toNat (0 : Int)) + (w64 (p2.getD t13_a.toNat (0 : Int))))) p3.1)))))))))
      (some o10_a)
theorem wl48ca (N : Nat) (w0 : List Int) (p1 : Int) (p2 : List Int) (p3 : Int × List (List Int) × Unit) (p4 : Int) (m : Nat) (t13_a : Int) (o10_a : List Int) : R48c_0 N (m + 1) (Sl48ca w0 p1 p2 p3 p4 t13_a o10_a) = cond (decide (t13_a < (w0.length : Int))) (chk (decide (p1 ≠ (0 : Int))) (chk (decide (0 ≤ t13_a ∧ t13_a < (w0.length : Int))) (chk (decide (0 ≤ t13_a ∧ t13_a < (4 : Int))) (chk (decide (p3.1 ≠ (0 : Int))) (chk (decide (0 ≤ Int.tmod (w64 (t13_a + (w64 (p4)))) p1 ∧ Int.tmod (w64 (t13_a + (w64 (p4)))) p1 < (o10_a.length : Int))) ((R48c_0 N m (Sl48ca w0 p1 p2 p3 p4 (w64 (t13_a + (1 : Int))) (o10_a.set ((Int.tmod (w64 (t13_a + (w64 (p4)))) p1).toNat) (Int.tmod (w64 ((w0.getD t13_a.toNat (0 : Int)) + (w64 (p2.getD t13_a.toNat (0 : Int))))) p3.1))))))))))
      (some o10_a) := by kernel_rfl
theorem ql48ca (N : Nat) (w0 : List Int) (p1 : Int) (p2 : List Int) (p3 : Int × List (List Int) × Unit) (p4 : Int) : ∀ (m : Nat) (t13_a : Int) (o10_a : List Int), R48c_0 N m (Sl48ca w0 p1 p2 p3 p4 t13_a o10_a) = l48ca N w0 p1 p2 p3 p4 m t13_a o10_a
        | 0, _, _ => rfl
        | m + 1, t13_a, o10_a => by rw [wl48ca]; simp only [l48ca, ql48ca N w0 p1 p2 p3 p4 m]
def m48c (N : Nat) (w0 : List Int) (p1 : Int) (p2 : List Int) (p3 : Int × List (List Int) × Unit) (p4 : Int) : Option (List Int) :=
      chk (mkOk p1 p1 8) ((l48ca N w0 p1 p2 p3 p4 N (0 : Int) (List.replicate p1.toNat (0 : Int))))
theorem wm48c (N : Nat) (w0 : List Int) (p1 : Int) (p2 : List Int) (p3 : Int × List (List Int) × Unit) (p4 : Int) : callF (E48c) lv48c N en48c c48c (resOf Tryd.f48) 33 [.dv (.sl (.int .i64)) w0, .el (.int .i64) p1 [], .el (.arr 4 (.int .u8)) p2 [], .el (.pair (.int .i64) (.pair (.sl (.sl (.int .i64))) (.unit))) p3 [], .el (.int .u8) p4 []] [] dec48c = chk (mkOk p1 p1 8) ((R48c_0 N N (Sl48ca w0 p1 p2 p3 p4 (0 : Int) (List.replicate p1.toNat (0 : Int))))) := by kernel_rfl
theorem k48c (N : Nat) (w0 : List Int) (p1 : Int) (p2 : List Int) (p3 : Int × List (List Int) × Unit) (p4 : Int) : callF (E48c) lv48c N en48c c48c (resOf Tryd.f48) 33 [.dv (.sl (.int .i64)) w0, .el (.int .i64) p1 [], .el (.arr 4 (.int .u8)) p2 [], .el (.pair (.int .i64) (.pair (.sl (.sl (.int .i64))) (.unit))) p3 [], .el (.int .u8) p4 []] [] dec48c = m48c N w0 p1 p2 p3 p4 := by rw [wm48c]; simp only [m48c, ql48ca]
theorem ok48c (a : Y48c) (h : ∀ w0 p1 p2 p3 p4 r, a w0 p1 p2 p3 p4 = some r → (∃ N, m48c N w0 p1 p2 p3 p4 = some r)) : FnOk Tryd.prog 48 (F48c a) := by
  intro args Of x hx
  simp only [F48c] at hx
  split at hx
  · rename_i w0 p1 p2 p3 p4
    obtain ⟨N, hN⟩ := h _ _ _ _ _ _ hx
    refine lifted (L := []) (rc := nrc) (fz := nfz) (fn := Tryd.f48) (by kernel_rfl) (by kernel_rfl) (by kernel_rfl) (by kernel_rfl) rfl ?_ ((k48c N _ _ _ _ _).trans hN) ?_
    · intro p hp; cases hp
    · intro l o hd
      simp only [dec48c] at hd
      split at hd
      · obtain rfl := Option.some.inj hd; exact ⟨rfl, rfl⟩
      · cases hd
  · cases hx
def E12 (a15 : Y15) (a16 : Y16) (a28 : Y28) (a34 : Y34) (a36 : Y36) (a40 : Y40) (a48c : Y48c) : Env := mkE TI TY [(15, F15 a15), (16, F16 a16), (28, F28 a28), (34, F34 a34), (36, F36 a36), (40, F40 a40), (48, F48c a48c)] (fun i => ([(13, [some (.int .i64), none]), (56, [some (.int .i64), none])] : List (Nat × List (Option DT))).lookup i) nfz
noncomputable def c12 : Code := bodyOf Tryd.f12
def nm12_0 : Norm := ⟨[5, 7, 9, 10, 11, 12, 13, 58, 59, 60], [5, 13, 55], [], []⟩
def nm12_1 : Norm := ⟨[5, 7, 9, 10, 12, 13, 16, 81, 82], [5, 13, 79, 55], [], []⟩
def nm12_2 : Norm := ⟨[7, 10, 24, 172, 173, 174], [], [], []⟩
def nm12_3 : Norm := ⟨[7, 10, 24, 37, 38, 172, 173, 174, 178, 179, 180], [], [], []⟩
def lv12 : Nat → Option Norm := norms [(6, nm12_0), (12, nm12_1), (27, nm12_2), (31, nm12_3), (1000003, ⟨[], [6, 7, 9, 11], [], []⟩)]
def en12 : End := ⟨[], ⟨[209], [], [], []⟩⟩
def dec12 (l : List TV) (o : List (Nat × TO)) : Option (Bool) := match l, o with | [.dv (.bool) x0], [] => some (x0) | _, _ => none
def Sl12d (turn3 : Int) (r1 : Int × List (List Int) × Unit) (r5 : List Int × Int) (r7 : List Int × Int) (t174_c : Int) (found38_d : Bool) (t180_d : Int) : TS := ⟨slots 209 [(7, .el (.int .u8) turn3 []), (10, .dv (.int .i64) (r1.2.1.length : Int)), (24, .dv (.sl (.int .i64)) r7.1), (37, .dv (.int .i64) (r5.1.getD t174_c.toNat (0 : Int))), (38, .dv (.bool) found38_d), (172, .dv (.sl (.int .i64)) r5.1), (173, .dv (.int .i64) (r5.1.length : Int)), (174, .dv (.int .i64) t174_c), (178, .dv (.sl (.int .i64)) r7.1), (179, .dv (.int .i64) (r7.1.length : Int)), (180, .dv (.int .i64) t180_d)], []⟩
def Sl12c (turn3 : Int) (r1 : Int × List (List Int) × Unit) (r5 : List Int × Int) (r7 : List Int × Int) (t174_c : Int) : TS := ⟨slots 209 [(7, .el (.int .u8) turn3 []), (10, .dv (.int .i64) (r1.2.1.length : Int)), (24, .dv (.sl (.int .i64)) r7.1), (172, .dv (.sl (.int .i64)) r5.1), (173, .dv (.int .i64) (r5.1.length : Int)), (174, .dv (.int .i64) t174_c)], []⟩
def Sl12b (by1 : List Int) (turns2 : List Int) (turn3 : Int) (r1 : Int × List (List Int) × Unit) (o55_a : List (List Int)) (t82_b : Int) (o79_b : List Int) : TS := ⟨slots 209 [(5, .ptr 5 0 []), (7, .el (.int .u8) turn3 []), (9, .el (.pair (.int .i64) (.pair (.sl (.sl (.int .i64))) (.unit))) r1 []), (10, .dv (.int .i64) (r1.2.1.length : Int)), (12, .fn 48 0 4 fun i => ([.el (.int .i64) ((r1.2.1.getD 0 ([] : List Int)).length : Int) [], .el (.arr 4 (.int .u8)) turns2 [], .el (.pair (.int .i64) (.pair (.sl (.sl (.int .i64))) (.unit))) r1 [], .el (.int .u8) turn3 []] : List TV).getD i .any), (13, .ptr 13 0 []), (16, .row 79), (81, .dv (.int .i64) ((List.replicate (((r1.2.1.getD 0 ([] : List Int)).length : Int).toNat) (0 : Int)).length : Int)), (82, .dv (.int .i64) t82_b)], [(5, .row (.arr 4 (.int .u8)) ([by1] : List (List Int))), (13, .rcd [.dv (.int .i64) r1.1, .row 55]), (79, .row (.int .i64) o79_b), (55, .row (.sl (.int .i64)) o55_a)]⟩
def Sl12a (by1 : List Int) (turns2 : List Int) (turn3 : Int) (r1 : Int × List (List Int) × Unit) (t60_a : Int) (o55_a : List (List Int)) : TS := ⟨slots 209 [(5, .ptr 5 0 []), (7, .el (.int .u8) turn3 []), (9, .el (.pair (.int .i64) (.pair (.sl (.sl (.int .i64))) (.unit))) r1 []), (10, .dv (.int .i64) (r1.2.1.length : Int)), (11, .el (.int .i64) ((r1.2.1.getD 0 ([] : List Int)).length : Int) []), (12, .fn 48 0 4 fun i => ([.el (.int .i64) ((r1.2.1.getD 0 ([] : List Int)).length : Int) [], .el (.arr 4 (.int .u8)) turns2 [], .el (.pair (.int .i64) (.pair (.sl (.sl (.int .i64))) (.unit))) r1 [], .el (.int .u8) turn3 []] : List TV).getD i .any), (13, .ptr 13 0 []), (58, .dv (.sl (.sl (.int .i64))) r1.2.1), (59, .dv (.int .i64) (r1.2.1.length : Int)), (60, .dv (.int .i64) t60_a)], [(5, .row (.arr 4 (.int .u8)) ([by1] : List (List Int))), (13, .rcd [.dv (.int .i64) r1.1, .row 55]), (55, .row (.sl (.int .i64)) o55_a)]⟩
noncomputable def K12_0 (a15 : Y15) (a16 : Y16) (a28 : Y28) (a34 : Y34) (a36 : Y36) (a40 : Y40) (a48c : Y48c) (N : Nat) : Kont (Bool) := kont (E12 a15 a16 a28 a34 a36 a40 a48c) lv12 N c12 [1, 1, 1, 1, 1, 0, 1, 0] (fin TI en12 (resOf Tryd.f12) dec12)
noncomputable def R12_0 (a15 : Y15) (a16 : Y16) (a28 : Y28) (a34 : Y34) (a36 : Y36) (a40 : Y40) (a48c : Y48c) (N : Nat) (m : Nat) : TS → Option (Bool) := loopK (den (E12 a15 a16 a28 a34 a36 a40 a48c) lv12 N (sub c12 [1, 1, 1, 1, 1, 0, 1, 0, 0])) (TS.norm nm12_0) (K12_0 a15 a16 a28 a34 a36 a40 a48c N) m
noncomputable def K12_1 (a15 : Y15) (a16 : Y16) (a28 : Y28) (a34 : Y34) (a36 : Y36) (a40 : Y40) (a48c : Y48c) (N : Nat) : Kont (Bool) := kont (E12 a15 a16 a28 a34 a36 a40 a48c) lv12 N c12 [1, 1, 1, 1, 1, 1, 1, 0, 1, 0] (fin TI en12 (resOf Tryd.f12) dec12)
noncomputable def R12_1 (a15 : Y15) (a16 : Y16) (a28 : Y28) (a34 : Y34) (a36 : Y36) (a40 : Y40) (a48c : Y48c) (N : Nat) (m : Nat) : TS → Option (Bool) := loopK (den (E12 a15 a16 a28 a34 a36 a40 a48c) lv12 N (sub c12 [1, 1, 1, 1, 1, 1, 1, 0, 1, 0, 0])) (TS.norm nm12_1) (K12_1 a15 a16 a28 a34 a36 a40 a48c N) m
noncomputable def K12_2 (a15 : Y15) (a16 : Y16) (a28 : Y28) (a34 : Y34) (a36 : Y36) (a40 : Y40) (a48c : Y48c) (N : Nat) : Kont (Bool) := kont (E12 a15 a16 a28 a34 a36 a40 a48c) lv12 N c12 [1, 1, 1, 1, 1, 1, 1, 1, 1, 1, 1, 1, 1, 1, 1, 1, 1, 0, 1, 0] (fin TI en12 (resOf Tryd.f12) dec12)
noncomputable def R12_2 (a15 : Y15) (a16 : Y16) (a28 : Y28) (a34 : Y34) (a36 : Y36) (a40 : Y40) (a48c : Y48c) (N : Nat) (m : Nat) : TS → Option (Bool) := loopK (den (E12 a15 a16 a28 a34 a36 a40 a48c) lv12 N (sub c12 [1, 1, 1, 1, 1, 1, 1, 1, 1, 1, 1, 1, 1, 1, 1, 1, 1, 0, 1, 0, 0])) (TS.norm nm12_2) (K12_2 a15 a16 a28 a34 a36 a40 a48c N) m
noncomputable def K12_3 (a15 : Y15) (a16 : Y16) (a28 : Y28) (a34 : Y34) (a36 : Y36) (a40 : Y40) (a48c : Y48c) (N : Nat) (T12_2 : TS → Option (Bool)) : Kont (Bool) := kont (E12 a15 a16 a28 a34 a36 a40 a48c) lv12 N (sub c12 [1, 1, 1, 1, 1, 1, 1, 1, 1, 1, 1, 1, 1, 1, 1, 1, 1, 0, 1, 0, 0]) [1, 1, 0, 0, 1, 1, 0, 1, 0] (kloop (TS.norm nm12_2) (K12_2 a15 a16 a28 a34 a36 a40 a48c N) T12_2)
noncomputable def R12_3 (a15 : Y15) (a16 : Y16) (a28 : Y28) (a34 : Y34) (a36 : Y36) (a40 : Y40) (a48c : Y48c) (N : Nat) (T12_2 : TS → Option (Bool)) (m : Nat) : TS → Option (Bool) := loopK (den (E12 a15 a16 a28 a34 a36 a40 a48c) lv12 N (sub c12 [1, 1, 1, 1, 1, 1, 1, 1, 1, 1, 1, 1, 1, 1, 1, 1, 1, 0, 1, 0, 0, 1, 1, 0, 0, 1, 1, 0, 1, 0, 0])) (TS.norm nm12_3) (K12_3 a15 a16 a28 a34 a36 a40 a48c N T12_2) m
def l12d (a15 : Y15) (a16 : Y16) (a28 : Y28) (a34 : Y34) (a36 : Y36) (a40 : Y40) (a48c : Y48c) (N : Nat) (turn3 : Int) (r1 : Int × List (List Int) × Unit) (r5 : List Int × Int) (r7 : List Int × Int) (t174_c : Int) (rec_l12c : Int → Option (Bool)) : Nat → Bool → Int → Option (Bool)
  | 0, _, _ => none
  | n + 1, found38_d, t180_d => cond (decide (t180_d < (r7.1.length : Int))) (chk (decide (0 ≤ t180_d ∧ t180_d < (r7.1.length : Int))) (cond (found38_d) ((l12d a15 a16 a28 a34 a36 a40 a48c N turn3 r1 r5 r7 t174_c rec_l12c n true (w64 (t180_d + (1 : Int)))))
      (cond (decide ((r5.1.getD t174_c.toNat (0 : Int)) ≥ (0 : Int))) (cond (decide ((r5.1.getD t174_c.toNat (0 : Int)) < (r1.2.1.length : Int))) (chk (decide ((r1.2.1.length : Int) ≠ (0 : Int))) ((l12d a15 a16 a28 a34 a36 a40 a48c N turn3 r1 r5 r7 t174_c rec_l12c n ((Int.tmod (w64 ((r5.1.getD t174_c.toNat (0 : Int)) + (w64 (turn3)))) (r1.2.1.length : Int)) == (r7.1.getD t180_d.toNat (0 : Int))) (w64 (t180_d + (1 : Int))))))
      ((l12d a15 a16 a28 a34 a36 a40 a48c N turn3 r1 r5 r7 t174_c rec_l12c n false (w64 (t180_d + (1 : Int))))))
      ((l12d a15 a16 a28 a34 a36 a40 a48c N turn3 r1 r5 r7 t174_c rec_l12c n false (w64 (t180_d + (1 : Int))))))))
      (cond (!found38_d) (some false)
      ((rec_l12c (w64 (t174_c + (1 : Int))))))
theorem wl12d (a15 : Y15) (a16 : Y16) (a28 : Y28) (a34 : Y34) (a36 : Y36) (a40 : Y40) (a48c : Y48c) (N : Nat) (turn3 : Int) (r1 : Int × List (List Int) × Unit) (r5 : List Int × Int) (r7 : List Int × Int) (t174_c : Int) (T12_2 : TS → Option (Bool)) (m : Nat) (found38_d : Bool) (t180_d : Int) : R12_3 a15 a16 a28 a34 a36 a40 a48c N T12_2 (m + 1) (Sl12d turn3 r1 r5 r7 t174_c found38_d t180_d) = cond (decide (t180_d < (r7.1.length : Int))) (chk (decide (0 ≤ t180_d ∧ t180_d < (r7.1.length : Int))) (cond (found38_d) ((R12_3 a15 a16 a28 a34 a36 a40 a48c N T12_2 m (Sl12d turn3 r1 r5 r7 t174_c true (w64 (t180_d + (1 : Int))))))
      (cond (decide ((r5.1.getD t174_c.toNat (0 : Int)) ≥ (0 : Int))) (cond (decide ((r5.1.getD t174_c.toNat (0 : Int)) < (r1.2.1.length : Int))) (chk (decide ((r1.2.1.length : Int) ≠ (0 : Int))) ((R12_3 a15 a16 a28 a34 a36 a40 a48c N T12_2 m (Sl12d turn3 r1 r5 r7 t174_c ((Int.tmod (w64 ((r5.1.getD t174_c.toNat (0 : Int)) + (w64 (turn3)))) (r1.2.1.length : Int)) == (r7.1.getD t180_d.toNat (0 : Int))) (w64 (t180_d + (1 : Int)))))))
      ((R12_3 a15 a16 a28 a34 a36 a40 a48c N T12_2 m (Sl12d turn3 r1 r5 r7 t174_c false (w64 (t180_d + (1 : Int)))))))
      ((R12_3 a15 a16 a28 a34 a36 a40 a48c N T12_2 m (Sl12d turn3 r1 r5 r7 t174_c false (w64 (t180_d + (1 : Int)))))))))
      (cond (!found38_d) (some false)
      ((T12_2 (Sl12c turn3 r1 r5 r7 (w64 (t174_c + (1 : Int))))))) := by kernel_rfl
theorem ql12d (a15 : Y15) (a16 : Y16) (a28 : Y28) (a34 : Y34) (a36 : Y36) (a40 : Y40) (a48c : Y48c) (N : Nat) (turn3 : Int) (r1 : Int × List (List Int) × Unit) (r5 : List Int × Int) (r7 : List Int × Int) (t174_c : Int) (T12_2 : TS → Option (Bool)) : ∀ (m : Nat) (found38_d : Bool) (t180_d : Int), R12_3 a15 a16 a28 a34 a36 a40 a48c N T12_2 m (Sl12d turn3 r1 r5 r7 t174_c found38_d t180_d) = l12d a15 a16 a28 a34 a36 a40 a48c N turn3 r1 r5 r7 t174_c (fun y0 => T12_2 (Sl12c turn3 r1 r5 r7 y0)) m found38_d t180_d
        | 0, _, _ => rfl
        | m + 1, found38_d, t180_d => by rw [wl12d]; simp only [l12d, ql12d a15 a16 a28 a34 a36 a40 a48c N turn3 r1 r5 r7 t174_c T12_2 m]
def l12c (a15 : Y15) (a16 : Y16) (a28 : Y28) (a34 : Y34) (a36 : Y36) (a40 : Y40) (a48c : Y48c) (N : Nat) (turn3 : Int) (r1 : Int × List (List Int) × Unit) (r5 : List Int × Int) (r7 : List Int × Int) : Nat → Int → Option (Bool)
  | 0, _ => none
  | n + 1, t174_c => cond (decide (t174_c < (r5.1.length : Int))) (chk (decide (0 ≤ t174_c ∧ t174_c < (r5.1.length : Int))) ((l12d a15 a16 a28 a34 a36 a40 a48c N turn3 r1 r5 r7 t174_c (fun y0 => (l12c a15 a16 a28 a34 a36 a40 a48c N turn3 r1 r5 r7 n y0)) N false (0 : Int))))
      ((a15).bind fun r12 =>
      some r12)
theorem wl12c (a15 : Y15) (a16 : Y16) (a28 : Y28) (a34 : Y34) (a36 : Y36) (a40 : Y40) (a48c : Y48c) (N : Nat) (turn3 : Int) (r1 : Int × List (List Int) × Unit) (r5 : List Int × Int) (r7 : List Int × Int) (m : Nat) (t174_c : Int) : R12_2 a15 a16 a28 a34 a36 a40 a48c N (m + 1) (Sl12c turn3 r1 r5 r7 t174_c) = cond (decide (t174_c < (r5.1.length : Int))) (chk (decide (0 ≤ t174_c ∧ t174_c < (r5.1.length : Int))) ((R12_3 a15 a16 a28 a34 a36 a40 a48c N (R12_2 a15 a16 a28 a34 a36 a40 a48c N m) N (Sl12d turn3 r1 r5 r7 t174_c false (0 : Int)))))
      ((a15).bind fun r12 =>
      some r12) := by kernel_rfl
theorem ql12c (a15 : Y15) (a16 : Y16) (a28 : Y28) (a34 : Y34) (a36 : Y36) (a40 : Y40) (a48c : Y48c) (N : Nat) (turn3 : Int) (r1 : Int × List (List Int) × Unit) (r5 : List Int × Int) (r7 : List Int × Int) : ∀ (m : Nat) (t174_c : Int), R12_2 a15 a16 a28 a34 a36 a40 a48c N m (Sl12c turn3 r1 r5 r7 t174_c) = l12c a15 a16 a28 a34 a36 a40 a48c N turn3 r1 r5 r7 m t174_c
        | 0, _ => rfl
        | m + 1, t174_c => by rw [wl12c]; simp only [l12c, ql12d, ql12c a15 a16 a28 a34 a36 a40 a48c N turn3 r1 r5 r7 m]
def l12b (a15 : Y15) (a16 : Y16) (a28 : Y28) (a34 : Y34) (a36 : Y36) (a40 : Y40) (a48c : Y48c) (N : Nat) (by1 : List Int) (turns2 : List Int) (turn3 : Int) (r1 : Int × List (List Int) × Unit) (o55_a : List (List Int)) : Nat → Int → (List Int) → Option (Bool)
  | 0, _, _ => none
  | n + 1, t82_b, o79_b => cond (decide (t82_b < ((List.replicate (((r1.2.1.getD 0 ([] : List Int)).length : Int).toNat) (0 : Int)).length : Int))) (chk (decide (0 ≤ t82_b ∧ t82_b < (4 : Int))) (chk (decide (r1.1 ≠ (0 : Int))) (chk (decide (0 ≤ t82_b ∧ t82_b < (o79_b.length : Int))) ((l12b a15 a16 a28 a34 a36 a40 a48c N by1 turns2 turn3 r1 o55_a n (w64 (t82_b + (1 : Int))) (o79_b.set t82_b.toNat (Int.tmod (w64 (by1.getD t82_b.toNat (0 : Int))) r1.1)))))))
      ((a16 r1).bind fun r3 =>
      (a16 (r1.1, (o55_a, ()))).bind fun r4 =>
      (a28 r1 o79_b (2 : Int)).bind fun r5 =>
      (a48c o79_b ((r1.2.1.getD 0 ([] : List Int)).length : Int) turns2 r1 turn3).bind fun r6 =>
      (a28 (r1.1, (o55_a, ())) r6 (2 : Int)).bind fun r7 =>
      (a36 r1).bind fun r8 =>
      (a36 (r1.1, (o55_a, ()))).bind fun r9 =>
      (a34 r1 (2 : Int)).bind fun r10 =>
      (a34 (r1.1, (o55_a, ())) (2 : Int)).bind fun r11 =>
      cond (r3.1 != r4.1) (some false)
      (cond (r3.2 != r4.2) (some false)
      (cond (r5.2 != r7.2) (some false)
      (cond (r8.2 != r9.2) (some false)
      (cond (r10.2.2 != r11.2.2) (some false)
      (cond ((r5.1.length : Int) != (r7.1.length : Int)) (some false)
      ((l12c a15 a16 a28 a34 a36 a40 a48c N turn3 r1 r5 r7 N (0 : Int)))))))))
theorem wl12b (a15 : Y15) (a16 : Y16) (a28 : Y28) (a34 : Y34) (a36 : Y36) (a40 : Y40) (a48c : Y48c) (N : Nat) (by1 : List Int) (turns2 : List Int) (turn3 : Int) (r1 : Int × List (List Int) × Unit) (o55_a : List (List Int)) (m : Nat) (t82_b : Int) (o79_b : List Int) : R12_1 a15 a16 a28 a34 a36 a40 a48c N (m + 1) (Sl12b by1 turns2 turn3 r1 o55_a t82_b o79_b) = cond (decide (t82_b < ((List.replicate (((r1.2.1.getD 0 ([] : List Int)).length : Int).toNat) (0 : Int)).length : Int))) (chk (decide (0 ≤ t82_b ∧ t82_b < (4 : Int))) (chk (decide (r1.1 ≠ (0 : Int))) (chk (decide (0 ≤ t82_b ∧ t82_b < (o79_b.length : Int))) ((R12_1 a15 a16 a28 a34 a36 a40 a48c N m (Sl12b by1 turns2 turn3 r1 o55_a (w64 (t82_b + (1 : Int))) (o79_b.set t82_b.toNat (Int.tmod (w64 (by1.getD t82_b.toNat (0 : Int))) r1.1))))))))
      ((a16 r1).bind fun r3 =>
      (a16 (r1.1, (o55_a, ()))).bind fun r4 =>
      (a28 r1 o79_b (2 : Int)).bind fun r5 =>
      (a48c o79_b ((r1.2.1.getD 0 ([] : List Int)).length : Int) turns2 r1 turn3).bind fun r6 =>
      (a28 (r1.1, (o55_a, ())) r6 (2 : Int)).bind fun r7 =>
      (a36 r1).bind fun r8 =>
      (a36 (r1.1, (o55_a, ()))).bind fun r9 =>
      (a34 r1 (2 : Int)).bind fun r10 =>
      (a34 (r1.1, (o55_a, ())) (2 : Int)).bind fun r11 =>
      cond (r3.1 != r4.1) (some false)
      (cond (r3.2 != r4.2) (some false)
      (cond (r5.2 != r7.2) (some false)
      (cond (r8.2 != r9.2) (some false)
      (cond (r10.2.2 != r11.2.2) (some false)
      (cond ((r5.1.length : Int) != (r7.1.length : Int)) (some false)
      ((R12_2 a15 a16 a28 a34 a36 a40 a48c N N (Sl12c turn3 r1 r5 r7 (0 : Int)))))))))) := by kernel_rfl
theorem ql12b (a15 : Y15) (a16 : Y16) (a28 : Y28) (a34 : Y34) (a36 : Y36) (a40 : Y40) (a48c : Y48c) (N : Nat) (by1 : List Int) (turns2 : List Int) (turn3 : Int) (r1 : Int × List (List Int) × Unit) (o55_a : List (List Int)) : ∀ (m : Nat) (t82_b : Int) (o79_b : List Int), R12_1 a15 a16 a28 a34 a36 a40 a48c N m (Sl12b by1 turns2 turn3 r1 o55_a t82_b o79_b) = l12b a15 a16 a28 a34 a36 a40 a48c N by1 turns2 turn3 r1 o55_a m t82_b o79_b
        | 0, _, _ => rfl
        | m + 1, t82_b, o79_b => by rw [wl12b]; simp only [l12b, ql12c, ql12b a15 a16 a28 a34 a36 a40 a48c N by1 turns2 turn3 r1 o55_a m]
def l12a (a15 : Y15) (a16 : Y16) (a28 : Y28) (a34 : Y34) (a36 : Y36) (a40 : Y40) (a48c : Y48c) (N : Nat) (by1 : List Int) (turns2 : List Int) (turn3 : Int) (r1 : Int × List (List Int) × Unit) : Nat → Int → (List (List Int)) → Option (Bool)
  | 0, _, _ => none
  | n + 1, t60_a, o55_a => cond (decide (t60_a < (r1.2.1.length : Int))) (chk (decide (0 ≤ t60_a ∧ t60_a < (r1.2.1.length : Int))) (chk (decide ((r1.2.1.length : Int) ≠ (0 : Int))) ((a48c (r1.2.1.getD t60_a.toNat ([] : List Int)) ((r1.2.1.getD 0 ([] : List Int)).length : Int) turns2 r1 turn3).bind fun r2 =>
      chk (decide (0 ≤ Int.tmod (w64 (t60_a + (w64 (turn3)))) (r1.2.1.length : Int) ∧ Int.tmod (w64 (t60_a + (w64 (turn3)))) (r1.2.1.length : Int) < (o55_a.length : Int))) ((l12a a15 a16 a28 a34 a36 a40 a48c N by1 turns2 turn3 r1 n (w64 (t60_a + (1 : Int))) (o55_a.set ((Int.tmod (w64 (t60_a + (w64 (turn3)))) (r1.2.1.length : Int)).toNat) r2))))))
      (chk (mkOk ((r1.2.1.getD 0 ([] : List Int)).length : Int) ((r1.2.1.getD 0 ([] : List Int)).length : Int) 8) ((l12b a15 a16 a28 a34 a36 a40 a48c N by1 turns2 turn3 r1 o55_a N (0 : Int) (List.replicate (((r1.2.1.getD 0 ([] : List Int)).length : Int).toNat) (0 : Int)))))
theorem wl12a (a15 : Y15) (a16 : Y16) (a28 : Y28) (a34 : Y34) (a36 : Y36) (a40 : Y40) (a48c : Y48c) (N : Nat) (by1 : List Int) (turns2 : List Int) (turn3 : Int) (r1 : Int × List (List Int) × Unit) (m : Nat) (t60_a : Int) (o55_a : List (List Int)) : R12_0 a15 a16 a28 a34 a36 a40 a48c N (m + 1) (Sl12a by1 turns2 turn3 r1 t60_a o55_a) = cond (decide (t60_a < (r1.2.1.length : Int))) (chk (decide (0 ≤ t60_a ∧ t60_a < (r1.2.1.length : Int))) (chk (decide ((r1.2.1.length : Int) ≠ (0 : Int))) ((a48c (r1.2.1.getD t60_a.toNat ([] : List Int)) ((r1.2.1.getD 0 ([] : List Int)).length : Int) turns2 r1 turn3).bind fun r2 =>
      chk (decide (0 ≤ Int.tmod (w64 (t60_a + (w64 (turn3)))) (r1.2.1.length : Int) ∧ Int.tmod (w64 (t60_a + (w64 (turn3)))) (r1.2.1.length : Int) < (o55_a.length : Int))) ((R12_0 a15 a16 a28 a34 a36 a40 a48c N m (Sl12a by1 turns2 turn3 r1 (w64 (t60_a + (1 : Int))) (o55_a.set ((Int.tmod (w64 (t60_a + (w64 (turn3)))) (r1.2.1.length : Int)).toNat) r2)))))))
      (chk (mkOk ((r1.2.1.getD 0 ([] : List Int)).length : Int) ((r1.2.1.getD 0 ([] : List Int)).length : Int) 8) ((R12_1 a15 a16 a28 a34 a36 a40 a48c N N (Sl12b by1 turns2 turn3 r1 o55_a (0 : Int) (List.replicate (((r1.2.1.getD 0 ([] : List Int)).length : Int).toNat) (0 : Int)))))) := by kernel_rfl
theorem ql12a (a15 : Y15) (a16 : Y16) (a28 : Y28) (a34 : Y34) (a36 : Y36) (a40 : Y40) (a48c : Y48c) (N : Nat) (by1 : List Int) (turns2 : List Int) (turn3 : Int) (r1 : Int × List (List Int) × Unit) : ∀ (m : Nat) (t60_a : Int) (o55_a : List (List Int)), R12_0 a15 a16 a28 a34 a36 a40 a48c N m (Sl12a by1 turns2 turn3 r1 t60_a o55_a) = l12a a15 a16 a28 a34 a36 a40 a48c N by1 turns2 turn3 r1 m t60_a o55_a
        | 0, _, _ => rfl
        | m + 1, t60_a, o55_a => by rw [wl12a]; simp only [l12a, ql12b, ql12a a15 a16 a28 a34 a36 a40 a48c N by1 turns2 turn3 r1 m]
def m12 (a15 : Y15) (a16 : Y16) (a28 : Y28) (a34 : Y34) (a36 : Y36) (a40 : Y40) (a48c : Y48c) (N : Nat) (s0 : Int × Int × List (List Int) × Unit) (by1 : List Int) (turns2 : List Int) (turn3 : Int) : Option (Bool) :=
      (a40 s0).bind fun r1 =>
      chk (decide (0 ≤ (0 : Int) ∧ (0 : Int) < (r1.2.1.length : Int))) (chk (mkOk (r1.2.1.length : Int) (r1.2.1.length : Int) 24) ((l12a a15 a16 a28 a34 a36 a40 a48c N by1 turns2 turn3 r1 N (0 : Int) (List.replicate ((r1.2.1.length : Int).toNat) ([] : List Int)))))
theorem wm12 (a15 : Y15) (a16 : Y16) (a28 : Y28) (a34 : Y34) (a36 : Y36) (a40 : Y40) (a48c : Y48c) (N : Nat) (s0 : Int × Int × List (List Int) × Unit) (by1 : List Int) (turns2 : List Int) (turn3 : Int) : callF (E12 a15 a16 a28 a34 a36 a40 a48c) lv12 N en12 c12 (resOf Tryd.f12) 205 [.dv (.pair (.int .u8) (.pair (.int .u8) (.pair (.sl (.arr 4 (.int .u8))) (.unit)))) s0, .dv (.arr 4 (.int .u8)) by1, .dv (.arr 4 (.int .u8)) turns2, .dv (.int .u8) turn3] [] dec12 = (a40 s0).bind fun r1 =>
      chk (decide (0 ≤ (0 : Int) ∧ (0 : Int) < (r1.2.1.length : Int))) (chk (mkOk (r1.2.1.length : Int) (r1.2.1.length : Int) 24) ((R12_0 a15 a16 a28 a34 a36 a40 a48c N N (Sl12a by1 turns2 turn3 r1 (0 : Int) (List.replicate ((r1.2.1.length : Int).toNat) ([] : List Int)))))) := by kernel_rfl
theorem k12 (a15 : Y15) (a16 : Y16) (a28 : Y28) (a34 : Y34) (a36 : Y36) (a40 : Y40) (a48c : Y48c) (N : Nat) (s0 : Int × Int × List (List Int) × Unit) (by1 : List Int) (turns2 : List Int) (turn3 : Int) : callF (E12 a15 a16 a28 a34 a36 a40 a48c) lv12 N en12 c12 (resOf Tryd.f12) 205 [.dv (.pair (.int .u8) (.pair (.int .u8) (.pair (.sl (.arr 4 (.int .u8))) (.unit)))) s0, .dv (.arr 4 (.int .u8)) by1, .dv (.arr 4 (.int .u8)) turns2, .dv (.int .u8) turn3] [] dec12 = m12 a15 a16 a28 a34 a36 a40 a48c N s0 by1 turns2 turn3 := by rw [wm12]; simp only [m12, ql12a]
theorem ok12 (a15 : Y15) (a16 : Y16) (a28 : Y28) (a34 : Y34) (a36 : Y36) (a40 : Y40) (a48c : Y48c) (h15 : FnOk Tryd.prog 15 (F15 a15)) (h16 : FnOk Tryd.prog 16 (F16 a16)) (h28 : FnOk Tryd.prog 28 (F28 a28)) (h34 : FnOk Tryd.prog 34 (F34 a34)) (h36 : FnOk Tryd.prog 36 (F36 a36)) (h40 : FnOk Tryd.prog 40 (F40 a40)) (h48c : FnOk Tryd.prog 48 (F48c a48c)) (a : Y12) (h : ∀ s0 by1 turns2 turn3 r, a s0 by1 turns2 turn3 = some r → (∃ N, m12 a15 a16 a28 a34 a36 a40 a48c N s0 by1 turns2 turn3 = some r)) : FnOk Tryd.prog 12 (F12 a) := by
  intro args Of x hx
  simp only [F12] at hx
  split at hx
  · rename_i s0 by1 turns2 turn3
    obtain ⟨N, hN⟩ := h _ _ _ _ _ hx
    refine lifted (L := [(15, F15 a15), (16, F16 a16), (28, F28 a28), (34, F34 a34), (36, F36 a36), (40, F40 a40), (48, F48c a48c)]) (rc := (fun i => ([(13, [some (.int .i64), none]), (56, [some (.int .i64), none])] : List (Nat × List (Option DT))).lookup i)) (fz := nfz) (fn := Tryd.f12) (by kernel_rfl) (by kernel_rfl) (by kernel_rfl) (by kernel_rfl) rfl ?_ ((k12 a15 a16 a28 a34 a36 a40 a48c N _ _ _ _).trans hN) ?_
    · intro p hp; simp only [List.mem_cons, List.not_mem_nil, or_false] at hp; rcases hp with rfl | rfl | rfl | rfl | rfl | rfl | rfl
      · exact h15
      · exact h16
      · exact h28
      · exact h34
      · exact h36
      · exact h40
      · exact h48c
    · intro l o hd
      simp only [dec12] at hd
      split at hd
      · obtain rfl := Option.some.inj hd; exact ⟨rfl, rfl⟩
      · cases hd
  · cases hx
end Go.Proofs.YtbjfbbfglkmadaaDoor
