/-
  Functions 8, told as plain functions.
-/
import Derived.Test.YtbjfbbfglkmadaaDoorQFI
import Derived.Test.YtbjfbbfglkmadaaDoorBX
namespace Go.Proofs.YtbjfbbfglkmadaaDoor
open Go.RowKit
set_option linter.unusedVariables false
def E8 (a15 : Y15) (a20 : Y20) (a24 : Y24) (a26 : Y26) (a28 : Y28) (a32 : Y32) (a33 : Y33) (a40 : Y40) (a43 : Y43) (a44 : Y44) (a45 : Y45) (a46 : Y46) : Env := mkE TI TY [(15, F15 a15), (20, F20 a20), (24, F24 a24), (26, F26 a26), (28, F28 a28), (32, F32 a32), (33, F33 a33), (40, F40 a40), (43, F43 a43), (44, F44 a44), (45, F45 a45), (46, F46 a46)] (fun i => ([(16, [some (.nsl (.int .i64))])] : List (Nat × List (Option DT))).lookup i) nfz
noncomputable def c8 : Code := bodyOf Tryd.f8
def nm8_0 : Norm := ⟨[2, 4, 7, 8, 41, 42], [4, 7, 39], [], []⟩
def nm8_1 : Norm := ⟨[7, 8, 10, 11, 12, 13, 14, 16, 17], [7, 39], [(.slot 15, 1015, .sl (.int .i64))], []⟩
def nm8_2 : Norm := ⟨[7, 8, 10, 11, 12, 13, 14, 15, 16, 17, 18, 20, 126, 127, 128], [7, 39, 1015], [], []⟩
def nm8_3 : Norm := ⟨[7, 8, 10, 11, 12, 13, 14, 15, 16, 17, 23], [7, 39, 148], [], []⟩
def nm8_4 : Norm := ⟨[13, 14, 16, 24, 26, 27, 250, 251, 252], [], [], []⟩
def lv8 : Nat → Option Norm := norms [(4, nm8_0), (14, nm8_1), (24, nm8_2), (31, nm8_3), (46, nm8_4)]
def en8 : End := ⟨[], ⟨[290], [], [], []⟩⟩
def dec8 (l : List TV) (o : List (Nat × TO)) : Option (Bool) := match l, o with | [.dv (.bool) x0], [] => some (x0) | _, _ => none
def Sl8d (size2 : Int) (r1 : Int × List (List Int) × Unit) (o39_a : List Int) (r2 : List (List Int) × Int) (r3 : List Int × Int) (set17_b : Int) (least16_c : Option (List Int)) (k23_d : Int) (o148_d : List (List Int)) : TS := ⟨slots 290 [(7, .ptr 7 0 []), (8, .row 39), (10, .dv (.int .i64) (w64 ((1 : Int) + (Int.tmod (w64 (size2)) (4 : Int))))), (11, .dv (.sl (.sl (.int .i64))) r2.1), (12, .dv (.int .i64) r2.2), (13, .dv (.sl (.int .i64)) r3.1), (14, .dv (.int .i64) r3.2), (15, .row 148), (16, .dv (.nsl (.int .i64)) least16_c), (17, .dv (.int .i64) set17_b), (23, .dv (.int .i64) k23_d)], [(7, .row (.pair (.int .i64) (.pair (.sl (.sl (.int .i64))) (.unit))) ([r1] : List Cd)), (39, .frz (.int .i64) o39_a), (148, .row (.sl (.int .i64)) o148_d)]⟩
def Sl8c (size2 : Int) (r1 : Int × List (List Int) × Unit) (o39_a : List Int) (r2 : List (List Int) × Int) (r3 : List Int × Int) (set17_b : Int) (want15_b : List (List Int)) (r4 : List Int) (least16_c : Option (List Int)) (lean20_c : Bool) (t128_c : Int) : TS := ⟨slots 290 [(7, .ptr 7 0 []), (8, .row 39), (10, .dv (.int .i64) (w64 ((1 : Int) + (Int.tmod (w64 (size2)) (4 : Int))))), (11, .dv (.sl (.sl (.int .i64))) r2.1), (12, .dv (.int .i64) r2.2), (13, .dv (.sl (.int .i64)) r3.1), (14, .dv (.int .i64) r3.2), (15, .row 1015), (16, .dv (.nsl (.int .i64)) least16_c), (17, .dv (.int .i64) set17_b), (18, .dv (.sl (.int .i64)) r4), (20, .dv (.bool) lean20_c), (126, .dv (.sl (.int .i64)) r4), (127, .dv (.int .i64) (r4.length : Int)), (128, .dv (.int .i64) t128_c)], [(7, .row (.pair (.int .i64) (.pair (.sl (.sl (.int .i64))) (.unit))) ([r1] : List Cd)), (39, .frz (.int .i64) o39_a), (1015, .row (.sl (.int .i64)) want15_b)]⟩
def Sl8e (r3 : List Int × Int) (least16_b : Option (List Int)) (r12 : Int × Bool) (r13 : List Int × Int) (r16 : List Int × Int) (t252_e : Int) : TS := ⟨slots 290 [(13, .dv (.sl (.int .i64)) r3.1), (14, .dv (.int .i64) r3.2), (16, .dv (.nsl (.int .i64)) least16_b), (24, .dv (.int .i64) r12.1), (26, .dv (.sl (.int .i64)) r13.1), (27, .dv (.int .i64) r13.2), (250, .dv (.sl (.int .i64)) r16.1), (251, .dv (.int .i64) (r16.1.length : Int)), (252, .dv (.int .i64) t252_e)], []⟩
def Sl8b (size2 : Int) (r1 : Int × List (List Int) × Unit) (o39_a : List Int) (r2 : List (List Int) × Int) (r3 : List Int × Int) (least16_b : Option (List Int)) (set17_b : Int) (want15_b : List (List Int)) : TS := ⟨slots 290 [(7, .ptr 7 0 []), (8, .row 39), (10, .dv (.int .i64) (w64 ((1 : Int) + (Int.tmod (w64 (size2)) (4 : Int))))), (11, .dv (.sl (.sl (.int .i64))) r2.1), (12, .dv (.int .i64) r2.2), (13, .dv (.sl (.int .i64)) r3.1), (14, .dv (.int .i64) r3.2), (15, .row 1015), (16, .dv (.nsl (.int .i64)) least16_b), (17, .dv (.int .i64) set17_b)], [(1015, .row (.sl (.int .i64)) want15_b), (7, .row (.pair (.int .i64) (.pair (.sl (.sl (.int .i64))) (.unit))) ([r1] : List Cd)), (39, .frz (.int .i64) o39_a)]⟩
def Sl8a (by1 : List Int) (size2 : Int) (r1 : Int × List (List Int) × Unit) (t42_a : Int) (o39_a : List Int) : TS := ⟨slots 290 [(2, .dv (.int .u8) size2), (4, .ptr 4 0 []), (7, .ptr 7 0 []), (8, .row 39), (41, .dv (.int .i64) ((List.replicate (((r1.2.1.getD 0 ([] : List Int)).length : Int).toNat) (0 : Int)).length : Int)), (42, .dv (.int .i64) t42_a)], [(4, .row (.arr 4 (.int .u8)) ([by1] : List (List Int))), (7, .row (.pair (.int .i64) (.pair (.sl (.sl (.int .i64))) (.unit))) ([r1] : List Cd)), (39, .row (.int .i64) o39_a)]⟩
noncomputable def K8_0 (a15 : Y15) (a20 : Y20) (a24 : Y24) (a26 : Y26) (a28 : Y28) (a32 : Y32) (a33 : Y33) (a40 : Y40) (a43 : Y43) (a44 : Y44) (a45 : Y45) (a46 : Y46) (N : Nat) : Kont (Bool) := kont (E8 a15 a20 a24 a26 a28 a32 a33 a40 a43 a44 a45 a46) lv8 N c8 [1, 1, 1, 0, 1, 0] (fin TI en8 (resOf Tryd.f8) dec8)
noncomputable def R8_0 (a15 : Y15) (a20 : Y20) (a24 : Y24) (a26 : Y26) (a28 : Y28) (a32 : Y32) (a33 : Y33) (a40 : Y40) (a43 : Y43) (a44 : Y44) (a45 : Y45) (a46 : Y46) (N : Nat) (m : Nat) : TS → Option (Bool) := loopK (den (E8 a15 a20 a24 a26 a28 a32 a33 a40 a43 a44 a45 a46) lv8 N (sub c8 [1, 1, 1, 0, 1, 0, 0])) (TS.norm nm8_0) (K8_0 a15 a20 a24 a26 a28 a32 a33 a40 a43 a44 a45 a46 N) m
noncomputable def K8_1 (a15 : Y15) (a20 : Y20) (a24 : Y24) (a26 : Y26) (a28 : Y28) (a32 : Y32) (a33 : Y33) (a40 : Y40) (a43 : Y43) (a44 : Y44) (a45 : Y45) (a46 : Y46) (N : Nat) : Kont (Bool) := kont (E8 a15 a20 a24 a26 a28 a32 a33 a40 a43 a44 a45 a46) lv8 N c8 [1, 1, 1, 1, 1, 1, 1, 1, 1, 0, 1, 0] (fin TI en8 (resOf Tryd.f8) dec8)
noncomputable def R8_1 (a15 : Y15) (a20 : Y20) (a24 : Y24) (a26 : Y26) (a28 : Y28) (a32 : Y32) (a33 : Y33) (a40 : Y40) (a43 : Y43) (a44 : Y44) (a45 : Y45) (a46 : Y46) (N : Nat) (m : Nat) : TS → Option (Bool) := loopK (den (E8 a15 a20 a24 a26 a28 a32 a33 a40 a43 a44 a45 a46) lv8 N (sub c8 [1, 1, 1, 1, 1, 1, 1, 1, 1, 0, 1, 0, 0])) (TS.norm nm8_1) (K8_1 a15 a20 a24 a26 a28 a32 a33 a40 a43 a44 a45 a46 N) m
noncomputable def K8_2 (a15 : Y15) (a20 : Y20) (a24 : Y24) (a26 : Y26) (a28 : Y28) (a32 : Y32) (a33 : Y33) (a40 : Y40) (a43 : Y43) (a44 : Y44) (a45 : Y45) (a46 : Y46) (N : Nat) (T8_1 : TS → Option (Bool)) : Kont (Bool) := kont (E8 a15 a20 a24 a26 a28 a32 a33 a40 a43 a44 a45 a46) lv8 N (sub c8 [1, 1, 1, 1, 1, 1, 1, 1, 1, 0, 1, 0, 0]) [1, 0, 0, 1, 1, 1, 1, 1, 0, 1, 0] (kloop (TS.norm nm8_1) (K8_1 a15 a20 a24 a26 a28 a32 a33 a40 a43 a44 a45 a46 N) T8_1)
noncomputable def R8_2 (a15 : Y15) (a20 : Y20) (a24 : Y24) (a26 : Y26) (a28 : Y28) (a32 : Y32) (a33 : Y33) (a40 : Y40) (a43 : Y43) (a44 : Y44) (a45 : Y45) (a46 : Y46) (N : Nat) (T8_1 : TS → Option (Bool)) (m : Nat) : TS → Option (Bool) := loopK (den (E8 a15 a20 a24 a26 a28 a32 a33 a40 a43 a44 a45 a46) lv8 N (sub c8 [1, 1, 1, 1, 1, 1, 1, 1, 1, 0, 1, 0, 0, 1, 0, 0, 1, 1, 1, 1, 1, 0, 1, 0, 0])) (TS.norm nm8_2) (K8_2 a15 a20 a24 a26 a28 a32 a33 a40 a43 a44 a45 a46 N T8_1) m
noncomputable def K8_3 (a15 : Y15) (a20 : Y20) (a24 : Y24) (a26 : Y26) (a28 : Y28) (a32 : Y32) (a33 : Y33) (a40 : Y40) (a43 : Y43) (a44 : Y44) (a45 : Y45) (a46 : Y46) (N : Nat) (T8_1 : TS → Option (Bool)) : Kont (Bool) := kont (E8 a15 a20 a24 a26 a28 a32 a33 a40 a43 a44 a45 a46) lv8 N (sub c8 [1, 1, 1, 1, 1, 1, 1, 1, 1, 0, 1, 0, 0]) [1, 0, 0, 1, 1, 1, 1, 1, 1, 1, 0, 1, 1, 0] (kloop (TS.norm nm8_1) (K8_1 a15 a20 a24 a26 a28 a32 a33 a40 a43 a44 a45 a46 N) T8_1)
noncomputable def R8_3 (a15 : Y15) (a20 : Y20) (a24 : Y24) (a26 : Y26) (a28 : Y28) (a32 : Y32) (a33 : Y33) (a40 : Y40) (a43 : Y43) (a44 : Y44) (a45 : Y45) (a46 : Y46) (N : Nat) (T8_1 : TS → Option (Bool)) (m : Nat) : TS → Option (Bool) := loopK (den (E8 a15 a20 a24 a26 a28 a32 a33 a40 a43 a44 a45 a46) lv8 N (sub c8 [1, 1, 1, 1, 1, 1, 1, 1, 1, 0, 1, 0, 0, 1, 0, 0, 1, 1, 1, 1, 1, 1, 1, 0, 1, 1, 0, 0])) (TS.norm nm8_3) (K8_3 a15 a20 a24 a26 a28 a32 a33 a40 a43 a44 a45 a46 N T8_1) m
noncomputable def K8_4 (a15 : Y15) (a20 : Y20) (a24 : Y24) (a26 : Y26) (a28 : Y28) (a32 : Y32) (a33 : Y33) (a40 : Y40) (a43 : Y43) (a44 : Y44) (a45 : Y45) (a46 : Y46) (N : Nat) : Kont (Bool) := kont (E8 a15 a20 a24 a26 a28 a32 a33 a40 a43 a44 a45 a46) lv8 N c8 [1, 1, 1, 1, 1, 1, 1, 1, 1, 1, 1, 1, 1, 1, 1, 1, 1, 0, 1, 0] (fin TI en8 (resOf Tryd.f8) dec8)
noncomputable def R8_4 (a15 : Y15) (a20 : Y20) (a24 : Y24) (a26 : Y26) (a28 : Y28) (a32 : Y32) (a33 : Y33) (a40 : Y40) (a43 : Y43) (a44 : Y44) (a45 : Y45) (a46 : Y46) (N : Nat) (m : Nat) : TS → Option (Bool) := loopK (den (E8 a15 a20 a24 a26 a28 a32 a33 a40 a43 a44 a45 a46) lv8 N (sub c8 [1, 1, 1, 1, 1, 1, 1, 1, 1, 1, 1, 1, 1, 1, 1, 1, 1, 0, 1, 0, 0])) (TS.norm nm8_4) (K8_4 a15 a20 a24 a26 a28 a32 a33 a40 a43 a44 a45 a46 N) m
def l8d (a15 : Y15) (a20 : Y20) (a24 : Y24) (a26 : Y26) (a28 : Y28) (a32 : Y32) (a33 : Y33) (a40 : Y40) (a43 : Y43) (a44 : Y44) (a45 : Y45) (a46 : Y46) (N : Nat) (size2 : Int) (r1 : Int × List (List Int) × Unit) (o39_a : List Int) (r2 : List (List Int) × Int) (r3 : List Int × Int) (set17_b : Int) (least16_c : Option (List Int)) (rec_l8b : (Option (List Int)) → Int → (List (List Int)) → Option (Bool)) : Nat → Int → (List (List Int)) → Option (Bool)
  | 0, _, _ => none
  | n + 1, k23_d, o148_d => cond (decide (k23_d > (0 : Int))) (chk (decide (0 ≤ k23_d ∧ k23_d < (o148_d.length : Int))) (chk (decide (0 ≤ w64 (k23_d - (1 : Int)) ∧ w64 (k23_d - (1 : Int)) < (o148_d.length : Int))) ((a46 (o148_d.getD k23_d.toNat ([] : List Int)) (o148_d.getD ((w64 (k23_d - (1 : Int))).toNat) ([] : List Int))).bind fun r8 =>
      cond (r8) (chk (decide (0 ≤ w64 (k23_d - (1 : Int)) ∧ w64 (k23_d - (1 : Int)) < (o148_d.length : Int))) (chk (decide (0 ≤ k23_d ∧ k23_d < (o148_d.length : Int))) (chk (decide (0 ≤ k23_d ∧ k23_d < (o148_d.length : Int))) (chk (decide (0 ≤ w64 (k23_d - (1 : Int)) ∧ w64 (k23_d - (1 : Int)) < ((o148_d.set k23_d.toNat (o148_d.getD ((w64 (k23_d - (1 : Int))).toNat) ([] : List Int))).length : Int))) ((l8d a15 a20 a24 a26 a28 a32 a33 a40 a43 a44 a45 a46 N size2 r1 o39_a r2 r3 set17_b least16_c rec_l8b n (w64 (k23_d - (1 : Int))) ((o148_d.set k23_d.toNat (o148_d.getD ((w64 (k23_d - (1 : Int))).toNat) ([] : List Int))).set ((w64 (k23_d - (1 : Int))).toNat) (o148_d.getD k23_d.toNat ([] : List Int)))))))))
      ((rec_l8b least16_c (w64 (set17_b + (1 : Int))) o148_d)))))
      ((rec_l8b least16_c (w64 (set17_b + (1 : Int))) o148_d))
theorem wl8d (a15 : Y15) (a20 : Y20) (a24 : Y24) (a26 : Y26) (a28 : Y28) (a32 : Y32) (a33 : Y33) (a40 : Y40) (a43 : Y43) (a44 : Y44) (a45 : Y45) (a46 : Y46) (N : Nat) (size2 : Int) (r1 : Int × List (List Int) × Unit) (o39_a : List Int) (r2 : List (List Int) × Int) (r3 : List Int × Int) (set17_b : Int) (least16_c : Option (List Int)) (T8_1 : TS → Option (Bool)) (m : Nat) (k23_d : Int) (o148_d : List (List Int)) : R8_3 a15 a20 a24 a26 a28 a32 a33 a40 a43 a44 a45 a46 N T8_1 (m + 1) (Sl8d size2 r1 o39_a r2 r3 set17_b least16_c k23_d o148_d) = cond (decide (k23_d > (0 : Int))) (chk (decide (0 ≤ k23_d ∧ k23_d < (o148_d.length : Int))) (chk (decide (0 ≤ w64 (k23_d - (1 : Int)) ∧ w64 (k23_d - (1 : Int)) < (o148_d.length : Int))) ((a46 (o148_d.getD k23_d.toNat ([] : List Int)) (o148_d.getD ((w64 (k23_d - (1 : Int))).toNat) ([] : List Int))).bind fun r8 =>
      cond (r8) (chk (decide (0 ≤ w64 (k23_d - (1 : Int)) ∧ w64 (k23_d - (1 : Int)) < (o148_d.length : Int))) (chk (decide (0 ≤ k23_d ∧ k23_d < (o148_d.length : Int))) (chk (decide (0 ≤ k23_d ∧ k23_d < (o148_d.length : Int))) (chk (decide (0 ≤ w64 (k23_d - (1 : Int)) ∧ w64 (k23_d - (1 : Int)) < ((o148_d.set k23_d.toNat (o148_d.getD ((w64 (k23_d - (1 : Int))).toNat) ([] : List Int))).length : Int))) ((R8_3 a15 a20 a24 a26 a28 a32 a33 a40 a43 a44 a45 a46 N T8_1 m (Sl8d size2 r1 o39_a r2 r3 set17_b least16_c (w64 (k23_d - (1 : Int))) ((o148_d.set k23_d.toNat (o148_d.getD ((w64 (k23_d - (1 : Int))).toNat) ([] : List Int))).set ((w64 (k23_d - (1 : Int))).toNat) (o148_d.getD k23_d.toNat ([] : List Int))))))))))
      ((T8_1 (Sl8b size2 r1 o39_a r2 r3 least16_c (w64 (set17_b + (1 : Int))) o148_d))))))
      ((T8_1 (Sl8b size2 r1 o39_a r2 r3 least16_c (w64 (set17_b + (1 : Int))) o148_d))) := by kernel_rfl
theorem ql8d (a15 : Y15) (a20 : Y20) (a24 : Y24) (a26 : Y26) (a28 : Y28) (a32 : Y32) (a33 : Y33) (a40 : Y40) (a43 : Y43) (a44 : Y44) (a45 : Y45) (a46 : Y46) (N : Nat) (size2 : Int) (r1 : Int × List (List Int) × Unit) (o39_a : List Int) (r2 : List (List Int) × Int) (r3 : List Int × Int) (set17_b : Int) (least16_c : Option (List Int)) (T8_1 : TS → Option (Bool)) : ∀ (m : Nat) (k23_d : Int) (o148_d : List (List Int)), R8_3 a15 a20 a24 a26 a28 a32 a33 a40 a43 a44 a45 a46 N T8_1 m (Sl8d size2 r1 o39_a r2 r3 set17_b least16_c k23_d o148_d) = l8d a15 a20 a24 a26 a28 a32 a33 a40 a43 a44 a45 a46 N size2 r1 o39_a r2 r3 set17_b least16_c (fun y0 y1 y2 => T8_1 (Sl8b size2 r1 o39_a r2 r3 y0 y1 y2)) m k23_d o148_d
        | 0, _, _ => rfl
        | m + 1, k23_d, o148_d => by rw [wl8d]; simp only [l8d, ql8d a15 a20 a24 a26 a28 a32 a33 a40 a43 a44 a45 a46 N size2 r1 o39_a r2 r3 set17_b least16_c T8_1 m]
def l8c (a15 : Y15) (a20 : Y20) (a24 : Y24) (a26 : Y26) (a28 : Y28) (a32 : Y32) (a33 : Y33) (a40 : Y40) (a43 : Y43) (a44 : Y44) (a45 : Y45) (a46 : Y46) (N : Nat) (size2 : Int) (r1 : Int × List (List Int) × Unit) (o39_a : List Int) (r2 : List (List Int) × Int) (r3 : List Int × Int) (set17_b : Int) (want15_b : List (List Int)) (r4 : List Int) (rec_l8b : (Option (List Int)) → Int → (List (List Int)) → Option (Bool)) : Nat → (Option (List Int)) → Bool → Int → Option (Bool)
  | 0, _, _, _ => none
  | n + 1, least16_c, lean20_c, t128_c => cond (decide (t128_c < (r4.length : Int))) (chk (decide (0 ≤ t128_c ∧ t128_c < (r4.length : Int))) (cond (lean20_c) (chk (decide (0 ≤ r4.getD t128_c.toNat (0 : Int))) ((a45 r1 (bAndNot .i64 set17_b (IntKind.wrap .i64 ((1 : Int) * 2 ^ min (Int.toNat (r4.getD t128_c.toNat (0 : Int))) 64))) o39_a).bind fun r7 =>
      (l8c a15 a20 a24 a26 a28 a32 a33 a40 a43 a44 a45 a46 N size2 r1 o39_a r2 r3 set17_b want15_b r4 rec_l8b n least16_c (!r7) (w64 (t128_c + (1 : Int))))))
      ((l8c a15 a20 a24 a26 a28 a32 a33 a40 a43 a44 a45 a46 N size2 r1 o39_a r2 r3 set17_b want15_b r4 rec_l8b n least16_c false (w64 (t128_c + (1 : Int)))))))
      (cond (lean20_c) (chk (small (want15_b.length + 1) 24) ((l8d a15 a20 a24 a26 a28 a32 a33 a40 a43 a44 a45 a46 N size2 r1 o39_a r2 r3 set17_b least16_c rec_l8b N (w64 (((want15_b ++ ([r4] : List (List Int))).length : Int) - (1 : Int))) (want15_b ++ ([r4] : List (List Int))))))
      ((rec_l8b least16_c (w64 (set17_b + (1 : Int))) want15_b)))
theorem wl8c (a15 : Y15) (a20 : Y20) (a24 : Y24) (a26 : Y26) (a28 : Y28) (a32 : Y32) (a33 : Y33) (a40 : Y40) (a43 : Y43) (a44 : Y44) (a45 : Y45) (a46 : Y46) (N : Nat) (size2 : Int) (r1 : Int × List (List Int) × Unit) (o39_a : List Int) (r2 : List (List Int) × Int) (r3 : List Int × Int) (set17_b : Int) (want15_b : List (List Int)) (r4 : List Int) (T8_1 : TS → Option (Bool)) (m : Nat) (least16_c : Option (List Int)) (lean20_c : Bool) (t128_c : Int) : R8_2 a15 a20 a24 a26 a28 a32 a33 a40 a43 a44 a45 a46 N T8_1 (m + 1) (Sl8c size2 r1 o39_a r2 r3 set17_b want15_b r4 least16_c lean20_c t128_c) = cond (decide (t128_c < (r4.length : Int))) (chk (decide (0 ≤ t128_c ∧ t128_c < (r4.length : Int))) (cond (lean20_c) (chk (decide (0 ≤ r4.getD t128_c.toNat (0 : Int))) ((a45 r1 (bAndNot .i64 set17_b (IntKind.wrap .i64 ((1 : Int) * 2 ^ min (Int.toNat (r4.getD t128_c.toNat (0 : Int))) 64))) o39_a).bind fun r7 =>
      (R8_2 a15 a20 a24 a26 a28 a32 a33 a40 a43 a44 a45 a46 N T8_1 m (Sl8c size2 r1 o39_a r2 r3 set17_b want15_b r4 least16_c (!r7) (w64 (t128_c + (1 : Int)))))))
      ((R8_2 a15 a20 a24 a26 a28 a32 a33 a40 a43 a44 a45 a46 N T8_1 m (Sl8c size2 r1 o39_a r2 r3 set17_b want15_b r4 least16_c false (w64 (t128_c + (1 : Int))))))))
      (cond (lean20_c) (chk (small (want15_b.length + 1) 24) ((R8_3 a15 a20 a24 a26 a28 a32 a33 a40 a43 a44 a45 a46 N T8_1 N (Sl8d size2 r1 o39_a r2 r3 set17_b least16_c (w64 (((want15_b ++ ([r4] : List (List Int))).length : Int) - (1 : Int))) (want15_b ++ ([r4] : List (List Int)))))))
      ((T8_1 (Sl8b size2 r1 o39_a r2 r3 least16_c (w64 (set17_b + (1 : Int))) want15_b)))) := by kernel_rfl
theorem ql8c (a15 : Y15) (a20 : Y20) (a24 : Y24) (a26 : Y26) (a28 : Y28) (a32 : Y32) (a33 : Y33) (a40 : Y40) (a43 : Y43) (a44 : Y44) (a45 : Y45) (a46 : Y46) (N : Nat) (size2 : Int) (r1 : Int × List (List Int) × Unit) (o39_a : List Int) (r2 : List (List Int) × Int) (r3 : List Int × Int) (set17_b : Int) (want15_b : List (List Int)) (r4 : List Int) (T8_1 : TS → Option (Bool)) : ∀ (m : Nat) (least16_c : Option (List Int)) (lean20_c : Bool) (t128_c : Int), R8_2 a15 a20 a24 a26 a28 a32 a33 a40 a43 a44 a45 a46 N T8_1 m (Sl8c size2 r1 o39_a r2 r3 set17_b want15_b r4 least16_c lean20_c t128_c) = l8c a15 a20 a24 a26 a28 a32 a33 a40 a43 a44 a45 a46 N size2 r1 o39_a r2 r3 set17_b want15_b r4 (fun y0 y1 y2 => T8_1 (Sl8b size2 r1 o39_a r2 r3 y0 y1 y2)) m least16_c lean20_c t128_c
        | 0, _, _, _ => rfl
        | m + 1, least16_c, lean20_c, t128_c => by rw [wl8c]; simp only [l8c, ql8d, ql8c a15 a20 a24 a26 a28 a32 a33 a40 a43 a44 a45 a46 N size2 r1 o39_a r2 r3 set17_b want15_b r4 T8_1 m]
def l8e (a15 : Y15) (a20 : Y20) (a24 : Y24) (a26 : Y26) (a28 : Y28) (a32 : Y32) (a33 : Y33) (a40 : Y40) (a43 : Y43) (a44 : Y44) (a45 : Y45) (a46 : Y46) (N : Nat) (r3 : List Int × Int) (least16_b : Option (List Int)) (r12 : Int × Bool) (r13 : List Int × Int) (r16 : List Int × Int) : Nat → Int → Option (Bool)
  | 0, _ => none
  | n + 1, t252_e => cond (decide (t252_e < (r16.1.length : Int))) (chk (decide (0 ≤ t252_e ∧ t252_e < (r16.1.length : Int))) (cond (decide ((r16.1.getD t252_e.toNat (0 : Int)) < (0 : Int))) (some false)
      (cond (decide ((r16.1.getD t252_e.toNat (0 : Int)) > (9 : Int))) (some false)
      (chk (decide (0 ≤ r16.1.getD t252_e.toNat (0 : Int))) (cond ((bAnd .i64 (Int.fdiv r12.1 (2 ^ min (Int.toNat (r16.1.getD t252_e.toNat (0 : Int))) 64)) (1 : Int)) == (0 : Int)) (some false)
      ((l8e a15 a20 a24 a26 a28 a32 a33 a40 a43 a44 a45 a46 N r3 least16_b r12 r13 r16 n (w64 (t252_e + (1 : Int))))))))))
      (cond (r13.2 == (0 : Int)) ((a44 r12.1).bind fun r17 =>
      (a32 r13.1 r17).bind fun r18 =>
      cond (r18) (cond (r3.2 == (0 : Int)) ((a32 r3.1 (least16_b.getD [])).bind fun r19 =>
      cond (r19) ((a15).bind fun r20 =>
      some r20)
      (some false))
      (some false))
      (some false))
      (some false))
theorem wl8e (a15 : Y15) (a20 : Y20) (a24 : Y24) (a26 : Y26) (a28 : Y28) (a32 : Y32) (a33 : Y33) (a40 : Y40) (a43 : Y43) (a44 : Y44) (a45 : Y45) (a46 : Y46) (N : Nat) (r3 : List Int × Int) (least16_b : Option (List Int)) (r12 : Int × Bool) (r13 : List Int × Int) (r16 : List Int × Int) (m : Nat) (t252_e : Int) : R8_4 a15 a20 a24 a26 a28 a32 a33 a40 a43 a44 a45 a46 N (m + 1) (Sl8e r3 least16_b r12 r13 r16 t252_e) = cond (decide (t252_e < (r16.1.length : Int))) (chk (decide (0 ≤ t252_e ∧ t252_e < (r16.1.length : Int))) (cond (decide ((r16.1.getD t252_e.toNat (0 : Int)) < (0 : Int))) (some false)
      (cond (decide ((r16.1.getD t252_e.toNat (0 : Int)) > (9 : Int))) (some false)
      (chk (decide (0 ≤ r16.1.getD t252_e.toNat (0 : Int))) (cond ((bAnd .i64 (Int.fdiv r12.1 (2 ^ min (Int.toNat (r16.1.getD t252_e.toNat (0 : Int))) 64)) (1 : Int)) == (0 : Int)) (some false)
      ((R8_4 a15 a20 a24 a26 a28 a32 a33 a40 a43 a44 a45 a46 N m (Sl8e r3 least16_b r12 r13 r16 (w64 (t252_e + (1 : Int)))))))))))
      (cond (r13.2 == (0 : Int)) ((a44 r12.1).bind fun r17 =>
      (a32 r13.1 r17).bind fun r18 =>
      cond (r18) (cond (r3.2 == (0 : Int)) ((a32 r3.1 (least16_b.getD [])).bind fun r19 =>
      cond (r19) ((a15).bind fun r20 =>
      some r20)
      (some false))
      (some false))
      (some false))
      (some false)) := by kernel_rfl
theorem ql8e (a15 : Y15) (a20 : Y20) (a24 : Y24) (a26 : Y26) (a28 : Y28) (a32 : Y32) (a33 : Y33) (a40 : Y40) (a43 : Y43) (a44 : Y44) (a45 : Y45) (a46 : Y46) (N : Nat) (r3 : List Int × Int) (least16_b : Option (List Int)) (r12 : Int × Bool) (r13 : List Int × Int) (r16 : List Int × Int) : ∀ (m : Nat) (t252_e : Int), R8_4 a15 a20 a24 a26 a28 a32 a33 a40 a43 a44 a45 a46 N m (Sl8e r3 least16_b r12 r13 r16 t252_e) = l8e a15 a20 a24 a26 a28 a32 a33 a40 a43 a44 a45 a46 N r3 least16_b r12 r13 r16 m t252_e
        | 0, _ => rfl
        | m + 1, t252_e => by rw [wl8e]; simp only [l8e, ql8e a15 a20 a24 a26 a28 a32 a33 a40 a43 a44 a45 a46 N r3 least16_b r12 r13 r16 m]
def l8b (a15 : Y15) (a20 : Y20) (a24 : Y24) (a26 : Y26) (a28 : Y28) (a32 : Y32) (a33 : Y33) (a40 : Y40) (a43 : Y43) (a44 : Y44) (a45 : Y45) (a46 : Y46) (N : Nat) (size2 : Int) (r1 : Int × List (List Int) × Unit) (o39_a : List Int) (r2 : List (List Int) × Int) (r3 : List Int × Int) : Nat → (Option (List Int)) → Int → (List (List Int)) → Option (Bool)
  | 0, _, _, _ => none
  | n + 1, least16_b, set17_b, want15_b => chk (decide (0 ≤ (r1.2.1.length : Int))) (cond (decide (set17_b < (IntKind.wrap .i64 ((1 : Int) * 2 ^ min (Int.toNat (r1.2.1.length : Int)) 64)))) ((a44 set17_b).bind fun r4 =>
      (a45 r1 set17_b o39_a).bind fun r5 =>
      (a20 r1 r4 o39_a).bind fun r6 =>
      cond ((r6 == (0 : Int)) != r5) (some false)
      (cond (r5) (cond (least16_b.isNone) (chk (decide (0 < r4.length)) (cond (r5) ((l8c a15 a20 a24 a26 a28 a32 a33 a40 a43 a44 a45 a46 N size2 r1 o39_a r2 r3 set17_b want15_b r4 (fun y0 y1 y2 => (l8b a15 a20 a24 a26 a28 a32 a33 a40 a43 a44 a45 a46 N size2 r1 o39_a r2 r3 n y0 y1 y2)) N (some r4) (decide ((r4.length : Int) ≤ (w64 ((1 : Int) + (Int.tmod (w64 (size2)) (4 : Int)))))) (0 : Int)))
      ((l8c a15 a20 a24 a26 a28 a32 a33 a40 a43 a44 a45 a46 N size2 r1 o39_a r2 r3 set17_b want15_b r4 (fun y0 y1 y2 => (l8b a15 a20 a24 a26 a28 a32 a33 a40 a43 a44 a45 a46 N size2 r1 o39_a r2 r3 n y0 y1 y2)) N (some r4) false (0 : Int)))))
      (cond (decide ((r4.length : Int) < ((least16_b.getD []).length : Int))) (chk (decide (0 < r4.length)) (cond (r5) ((l8c a15 a20 a24 a26 a28 a32 a33 a40 a43 a44 a45 a46 N size2 r1 o39_a r2 r3 set17_b want15_b r4 (fun y0 y1 y2 => (l8b a15 a20 a24 a26 a28 a32 a33 a40 a43 a44 a45 a46 N size2 r1 o39_a r2 r3 n y0 y1 y2)) N (some r4) (decide ((r4.length : Int) ≤ (w64 ((1 : Int) + (Int.tmod (w64 (size2)) (4 : Int)))))) (0 : Int)))
      ((l8c a15 a20 a24 a26 a28 a32 a33 a40 a43 a44 a45 a46 N size2 r1 o39_a r2 r3 set17_b want15_b r4 (fun y0 y1 y2 => (l8b a15 a20 a24 a26 a28 a32 a33 a40 a43 a44 a45 a46 N size2 r1 o39_a r2 r3 n y0 y1 y2)) N (some r4) false (0 : Int)))))
      (cond ((r4.length : Int) == ((least16_b.getD []).length : Int)) ((a46 r4 (least16_b.getD [])).bind fun r9 =>
      cond (r9) (chk (decide (0 < r4.length)) (cond (r5) ((l8c a15 a20 a24 a26 a28 a32 a33 a40 a43 a44 a45 a46 N size2 r1 o39_a r2 r3 set17_b want15_b r4 (fun y0 y1 y2 => (l8b a15 a20 a24 a26 a28 a32 a33 a40 a43 a44 a45 a46 N size2 r1 o39_a r2 r3 n y0 y1 y2)) N (some r4) (decide ((r4.length : Int) ≤ (w64 ((1 : Int) + (Int.tmod (w64 (size2)) (4 : Int)))))) (0 : Int)))
      ((l8c a15 a20 a24 a26 a28 a32 a33 a40 a43 a44 a45 a46 N size2 r1 o39_a r2 r3 set17_b want15_b r4 (fun y0 y1 y2 => (l8b a15 a20 a24 a26 a28 a32 a33 a40 a43 a44 a45 a46 N size2 r1 o39_a r2 r3 n y0 y1 y2)) N (some r4) false (0 : Int)))))
      (cond (r5) ((l8c a15 a20 a24 a26 a28 a32 a33 a40 a43 a44 a45 a46 N size2 r1 o39_a r2 r3 set17_b want15_b r4 (fun y0 y1 y2 => (l8b a15 a20 a24 a26 a28 a32 a33 a40 a43 a44 a45 a46 N size2 r1 o39_a r2 r3 n y0 y1 y2)) N least16_b (decide ((r4.length : Int) ≤ (w64 ((1 : Int) + (Int.tmod (w64 (size2)) (4 : Int)))))) (0 : Int)))
      ((l8c a15 a20 a24 a26 a28 a32 a33 a40 a43 a44 a45 a46 N size2 r1 o39_a r2 r3 set17_b want15_b r4 (fun y0 y1 y2 => (l8b a15 a20 a24 a26 a28 a32 a33 a40 a43 a44 a45 a46 N size2 r1 o39_a r2 r3 n y0 y1 y2)) N least16_b false (0 : Int)))))
      (cond (r5) ((l8c a15 a20 a24 a26 a28 a32 a33 a40 a43 a44 a45 a46 N size2 r1 o39_a r2 r3 set17_b want15_b r4 (fun y0 y1 y2 => (l8b a15 a20 a24 a26 a28 a32 a33 a40 a43 a44 a45 a46 N size2 r1 o39_a r2 r3 n y0 y1 y2)) N least16_b (decide ((r4.length : Int) ≤ (w64 ((1 : Int) + (Int.tmod (w64 (size2)) (4 : Int)))))) (0 : Int)))
      ((l8c a15 a20 a24 a26 a28 a32 a33 a40 a43 a44 a45 a46 N size2 r1 o39_a r2 r3 set17_b want15_b r4 (fun y0 y1 y2 => (l8b a15 a20 a24 a26 a28 a32 a33 a40 a43 a44 a45 a46 N size2 r1 o39_a r2 r3 n y0 y1 y2)) N least16_b false (0 : Int)))))))
      (cond (r5) ((l8c a15 a20 a24 a26 a28 a32 a33 a40 a43 a44 a45 a46 N size2 r1 o39_a r2 r3 set17_b want15_b r4 (fun y0 y1 y2 => (l8b a15 a20 a24 a26 a28 a32 a33 a40 a43 a44 a45 a46 N size2 r1 o39_a r2 r3 n y0 y1 y2)) N least16_b (decide ((r4.length : Int) ≤ (w64 ((1 : Int) + (Int.tmod (w64 (size2)) (4 : Int)))))) (0 : Int)))
      ((l8c a15 a20 a24 a26 a28 a32 a33 a40 a43 a44 a45 a46 N size2 r1 o39_a r2 r3 set17_b want15_b r4 (fun y0 y1 y2 => (l8b a15 a20 a24 a26 a28 a32 a33 a40 a43 a44 a45 a46 N size2 r1 o39_a r2 r3 n y0 y1 y2)) N least16_b false (0 : Int))))))
      (cond (r2.2 != (0 : Int)) (some false)
      ((a33 r2.1 want15_b).bind fun r10 =>
      cond (!r10) (some false)
      (cond (least16_b.isNone) (cond (r3.2 == (14 : Int)) (cond ((r3.1.length : Int) == (0 : Int)) ((a15).bind fun r11 =>
      some r11)
      (some false))
      (some false))
      ((a43 r1 o39_a (w64 ((1 : Int) + (Int.tmod (w64 (size2)) (4 : Int))))).bind fun r12 =>
      (a28 r1 o39_a (w64 ((1 : Int) + (Int.tmod (w64 (size2)) (4 : Int))))).bind fun r13 =>
      cond (!r12.2) (cond (r13.2 == (14 : Int)) (cond (r3.2 == (0 : Int)) ((a32 r3.1 (least16_b.getD [])).bind fun r14 =>
      cond (r14) (cond (decide (((least16_b.getD []).length : Int) > (w64 ((1 : Int) + (Int.tmod (w64 (size2)) (4 : Int)))))) ((a15).bind fun r15 =>
      some r15)
      (some false))
      (some false))
      (some false))
      (some false))
      ((a28 r1 o39_a (w64 ((w64 ((1 : Int) + (Int.tmod (w64 (size2)) (4 : Int)))) + (1 : Int)))).bind fun r16 =>
      cond (r16.2 != (0 : Int)) (some false)
      ((l8e a15 a20 a24 a26 a28 a32 a33 a40 a43 a44 a45 a46 N r3 least16_b r12 r13 r16 N (0 : Int)))))))))
theorem wl8b (a15 : Y15) (a20 : Y20) (a24 : Y24) (a26 : Y26) (a28 : Y28) (a32 : Y32) (a33 : Y33) (a40 : Y40) (a43 : Y43) (a44 : Y44) (a45 : Y45) (a46 : Y46) (N : Nat) (size2 : Int) (r1 : Int × List (List Int) × Unit) (o39_a : List Int) (r2 : List (List Int) × Int) (r3 : List Int × Int) (m : Nat) (least16_b : Option (List Int)) (set17_b : Int) (want15_b : List (List Int)) : R8_1 a15 a20 a24 a26 a28 a32 a33 a40 a43 a44 a45 a46 N (m + 1) (Sl8b size2 r1 o39_a r2 r3 least16_b set17_b want15_b) = chk (decide (0 ≤ (r1.2.1.length : Int))) (cond (decide (set17_b < (IntKind.wrap .i64 ((1 : Int) * 2 ^ min (Int.toNat (r1.2.1.length : Int)) 64)))) ((a44 set17_b).bind fun r4 =>
      (a45 r1 set17_b o39_a).bind fun r5 =>
      (a20 r1 r4 o39_a).bind fun r6 =>
      cond ((r6 == (0 : Int)) != r5) (some false)
      (cond (r5) (cond (least16_b.isNone) (chk (decide (0 < r4.length)) (cond (r5) ((R8_2 a15 a20 a24 a26 a28 a32 a33 a40 a43 a44 a45 a46 N (R8_1 a15 a20 a24 a26 a28 a32 a33 a40 a43 a44 a45 a46 N m) N (Sl8c size2 r1 o39_a r2 r3 set17_b want15_b r4 (some r4) (decide ((r4.length : Int) ≤ (w64 ((1 : Int) + (Int.tmod (w64 (size2)) (4 : Int)))))) (0 : Int))))
      ((R8_2 a15 a20 a24 a26 a28 a32 a33 a40 a43 a44 a45 a46 N (R8_1 a15 a20 a24 a26 a28 a32 a33 a40 a43 a44 a45 a46 N m) N (Sl8c size2 r1 o39_a r2 r3 set17_b want15_b r4 (some r4) false (0 : Int))))))
      (cond (decide ((r4.length : Int) < ((least16_b.getD []).length : Int))) (chk (decide (0 < r4.length)) (cond (r5) ((R8_2 a15 a20 a24 a26 a28 a32 a33 a40 a43 a44 a45 a46 N (R8_1 a15 a20 a24 a26 a28 a32 a33 a40 a43 a44 a45 a46 N m) N (Sl8c size2 r1 o39_a r2 r3 set17_b want15_b r4 (some r4) (decide ((r4.length : Int) ≤ (w64 ((1 : Int) + (Int.tmod (w64 (size2)) (4 : Int)))))) (0 : Int))))
      ((R8_2 a15 a20 a24 a26 a28 a32 a33 a40 a43 a44 a45 a46 N (R8_1 a15 a20 a24 a26 a28 a32 a33 a40 a43 a44 a45 a46 N m) N (Sl8c size2 r1 o39_a r2 r3 set17_b want15_b r4 (some r4) false (0 : Int))))))
      (cond ((r4.length : Int) == ((least16_b.getD []).length : Int)) ((a46 r4 (least16_b.getD [])).bind fun r9 =>
      cond (r9) (chk (decide (0 < r4.length)) (cond (r5) ((R8_2 a15 a20 a24 a26 a28 a32 a33 a40 a43 a44 a45 a46 N (R8_1 a15 a20 a24 a26 a28 a32 a33 a40 a43 a44 a45 a46 N m) N (Sl8c size2 r1 o39_a r2 r3 set17_b want15_b r4 (some r4) (decide ((r4.length : Int) ≤ (w64 ((1 : Int) + (Int.tmod (w64 (size2)) (4 : Int)))))) (0 : Int))))
      ((R8_2 a15 a20 a24 a26 a28 a32 a33 a40 a43 a44 a45 a46 N (R8_1 a15 a20 a24 a26 a28 a32 a33 a40 a43 a44 a45 a46 N m) N (Sl8c size2 r1 o39_a r2 r3 set17_b want15_b r4 (some r4) false (0 : Int))))))
      (cond (r5) ((R8_2 a15 a20 a24 a26 a28 a32 a33 a40 a43 a44 a45 a46 N (R8_1 a15 a20 a24 a26 a28 a32 a33 a40 a43 a44 a45 a46 N m) N (Sl8c size2 r1 o39_a r2 r3 set17_b want15_b r4 least16_b (decide ((r4.length : Int) ≤ (w64 ((1 : Int) + (Int.tmod (w64 (size2)) (4 : Int)))))) (0 : Int))))
      ((R8_2 a15 a20 a24 a26 a28 a32 a33 a40 a43 a44 a45 a46 N (R8_1 a15 a20 a24 a26 a28 a32 a33 a40 a43 a44 a45 a46 N m) N (Sl8c size2 r1 o39_a r2 r3 set17_b want15_b r4 least16_b false (0 : Int))))))
      (cond (r5) ((R8_2 a15 a20 a24 a26 a28 a32 a33 a40 a43 a44 a45 a46 N (R8_1 a15 a20 a24 a26 a28 a32 a33 a40 a43 a44 a45 a46 N m) N (Sl8c size2 r1 o39_a r2 r3 set17_b want15_b r4 least16_b (decide ((r4.length : Int) ≤ (w64 ((1 : Int) + (Int.tmod (w64 (size2)) (4 : Int)))))) (0 : Int))))
      ((R8_2 a15 a20 a24 a26 a28 a32 a33 a40 a43 a44 a45 a46 N (R8_1 a15 a20 a24 a26 a28 a32 a33 a40 a43 a44 a45 a46 N m) N (Sl8c size2 r1 o39_a r2 r3 set17_b want15_b r4 least16_b false (0 : Int))))))))
      (cond (r5) ((R8_2 a15 a20 a24 a26 a28 a32 a33 a40 a43 a44 a45 a46 N (R8_1 a15 a20 a24 a26 a28 a32 a33 a40 a43 a44 a45 a46 N m) N (Sl8c size2 r1 o39_a r2 r3 set17_b want15_b r4 least16_b (decide ((r4.length : Int) ≤ (w64 ((1 : Int) + (Int.tmod (w64 (size2)) (4 : Int)))))) (0 : Int))))
      ((R8_2 a15 a20 a24 a26 a28 a32 a33 a40 a43 a44 a45 a46 N (R8_1 a15 a20 a24 a26 a28 a32 a33 a40 a43 a44 a45 a46 N m) N (Sl8c size2 r1 o39_a r2 r3 set17_b want15_b r4 least16_b false (0 : Int)))))))
      (cond (r2.2 != (0 : Int)) (some false)
      ((a33 r2.1 want15_b).bind fun r10 =>
      cond (!r10) (some false)
      (cond (least16_b.isNone) (cond (r3.2 == (14 : Int)) (cond ((r3.1.length : Int) == (0 : Int)) ((a15).bind fun r11 =>
      some r11)
      (some false))
      (some false))
      ((a43 r1 o39_a (w64 ((1 : Int) + (Int.tmod (w64 (size2)) (4 : Int))))).bind fun r12 =>
      (a28 r1 o39_a (w64 ((1 : Int) + (Int.tmod (w64 (size2)) (4 : Int))))).bind fun r13 =>
      cond (!r12.2) (cond (r13.2 == (14 : Int)) (cond (r3.2 == (0 : Int)) ((a32 r3.1 (least16_b.getD [])).bind fun r14 =>
      cond (r14) (cond (decide (((least16_b.getD []).length : Int) > (w64 ((1 : Int) + (Int.tmod (w64 (size2)) (4 : Int)))))) ((a15).bind fun r15 =>
      some r15)
      (some false))
      (some false))
      (some false))
      (some false))
      ((a28 r1 o39_a (w64 ((w64 ((1 : Int) + (Int.tmod (w64 (size2)) (4 : Int)))) + (1 : Int)))).bind fun r16 =>
      cond (r16.2 != (0 : Int)) (some false)
      ((R8_4 a15 a20 a24 a26 a28 a32 a33 a40 a43 a44 a45 a46 N N (Sl8e r3 least16_b r12 r13 r16 (0 : Int)))))))))) := by kernel_rfl
theorem ql8b (a15 : Y15) (a20 : Y20) (a24 : Y24) (a26 : Y26) (a28 : Y28) (a32 : Y32) (a33 : Y33) (a40 : Y40) (a43 : Y43) (a44 : Y44) (a45 : Y45) (a46 : Y46) (N : Nat) (size2 : Int) (r1 : Int × List (List Int) × Unit) (o39_a : List Int) (r2 : List (List Int) × Int) (r3 : List Int × Int) : ∀ (m : Nat) (least16_b : Option (List Int)) (set17_b : Int) (want15_b : List (List Int)), R8_1 a15 a20 a24 a26 a28 a32 a33 a40 a43 a44 a45 a46 N m (Sl8b size2 r1 o39_a r2 r3 least16_b set17_b want15_b) = l8b a15 a20 a24 a26 a28 a32 a33 a40 a43 a44 a45 a46 N size2 r1 o39_a r2 r3 m least16_b set17_b want15_b
        | 0, _, _, _ => rfl
        | m + 1, least16_b, set17_b, want15_b => by rw [wl8b]; simp only [l8b, ql8c, ql8e, ql8b a15 a20 a24 a26 a28 a32 a33 a40 a43 a44 a45 a46 N size2 r1 o39_a r2 r3 m]
def l8a (a15 : Y15) (a20 : Y20) (a24 : Y24) (a26 : Y26) (a28 : Y28) (a32 : Y32) (a33 : Y33) (a40 : Y40) (a43 : Y43) (a44 : Y44) (a45 : Y45) (a46 : Y46) (N : Nat) (by1 : List Int) (size2 : Int) (r1 : Int × List (List Int) × Unit) : Nat → Int → (List Int) → Option (Bool)
  | 0, _, _ => none
  | n + 1, t42_a, o39_a => cond (decide (t42_a < ((List.replicate (((r1.2.1.getD 0 ([] : List Int)).length : Int).toNat) (0 : Int)).length : Int))) (chk (decide (0 ≤ t42_a ∧ t42_a < (4 : Int))) (chk (decide (r1.1 ≠ (0 : Int))) (chk (decide (0 ≤ t42_a ∧ t42_a < (o39_a.length : Int))) ((l8a a15 a20 a24 a26 a28 a32 a33 a40 a43 a44 a45 a46 N by1 size2 r1 n (w64 (t42_a + (1 : Int))) (o39_a.set t42_a.toNat (Int.tmod (w64 (by1.getD t42_a.toNat (0 : Int))) r1.1)))))))
      ((a26 r1 o39_a (w64 ((1 : Int) + (Int.tmod (w64 (size2)) (4 : Int))))).bind fun r2 =>
      (a24 r1 o39_a).bind fun r3 =>
      (l8b a15 a20 a24 a26 a28 a32 a33 a40 a43 a44 a45 a46 N size2 r1 o39_a r2 r3 N (none : Option (List Int)) (1 : Int) ([] : List (List Int))))
theorem wl8a (a15 : Y15) (a20 : Y20) (a24 : Y24) (a26 : Y26) (a28 : Y28) (a32 : Y32) (a33 : Y33) (a40 : Y40) (a43 : Y43) (a44 : Y44) (a45 : Y45) (a46 : Y46) (N : Nat) (by1 : List Int) (size2 : Int) (r1 : Int × List (List Int) × Unit) (m : Nat) (t42_a : Int) (o39_a : List Int) : R8_0 a15 a20 a24 a26 a28 a32 a33 a40 a43 a44 a45 a46 N (m + 1) (Sl8a by1 size2 r1 t42_a o39_a) = cond (decide (t42_a < ((List.replicate (((r1.2.1.getD 0 ([] : List Int)).length : Int).toNat) (0 : Int)).length : Int))) (chk (decide (0 ≤ t42_a ∧ t42_a < (4 : Int))) (chk (decide (r1.1 ≠ (0 : Int))) (chk (decide (0 ≤ t42_a ∧ t42_a < (o39_a.length : Int))) ((R8_0 a15 a20 a24 a26 a28 a32 a33 a40 a43 a44 a45 a46 N m (Sl8a by1 size2 r1 (w64 (t42_a + (1 : Int))) (o39_a.set t42_a.toNat (Int.tmod (w64 (by1.getD t42_a.toNat (0 : Int))) r1.1))))))))
      ((a26 r1 o39_a (w64 ((1 : Int) + (Int.tmod (w64 (size2)) (4 : Int))))).bind fun r2 =>
      (a24 r1 o39_a).bind fun r3 =>
      (R8_1 a15 a20 a24 a26 a28 a32 a33 a40 a43 a44 a45 a46 N N (Sl8b size2 r1 o39_a r2 r3 (none : Option (List Int)) (1 : Int) ([] : List (List Int))))) := by kernel_rfl
theorem ql8a (a15 : Y15) (a20 : Y20) (a24 : Y24) (a26 : Y26) (a28 : Y28) (a32 : Y32) (a33 : Y33) (a40 : Y40) (a43 : Y43) (a44 : Y44) (a45 : Y45) (a46 : Y46) (N : Nat) (by1 : List Int) (size2 : Int) (r1 : Int × List (List Int) × Unit) : ∀ (m : Nat) (t42_a : Int) (o39_a : List Int), R8_0 a15 a20 a24 a26 a28 a32 a33 a40 a43 a44 a45 a46 N m (Sl8a by1 size2 r1 t42_a o39_a) = l8a a15 a20 a24 a26 a28 a32 a33 a40 a43 a44 a45 a46 N by1 size2 r1 m t42_a o39_a
        | 0, _, _ => rfl
        | m + 1, t42_a, o39_a => by rw [wl8a]; simp only [l8a, ql8b, ql8a a15 a20 a24 a26 a28 a32 a33 a40 a43 a44 a45 a46 N by1 size2 r1 m]
def m8 (a15 : Y15) (a20 : Y20) (a24 : Y24) (a26 : Y26) (a28 : Y28) (a32 : Y32) (a33 : Y33) (a40 : Y40) (a43 : Y43) (a44 : Y44) (a45 : Y45) (a46 : Y46) (N : Nat) (s0 : Int × Int × List (List Int) × Unit) (by1 : List Int) (size2 : Int) : Option (Bool) :=
      (a40 s0).bind fun r1 =>
      chk (decide (0 ≤ (0 : Int) ∧ (0 : Int) < (r1.2.1.length : Int))) (chk (mkOk ((r1.2.1.getD 0 ([] : List Int)).length : Int) ((r1.2.1.getD 0 ([] : List Int)).length : Int) 8) ((l8a a15 a20 a24 a26 a28 a32 a33 a40 a43 a44 a45 a46 N by1 size2 r1 N (0 : Int) (List.replicate (((r1.2.1.getD 0 ([] : List Int)).length : Int).toNat) (0 : Int)))))
theorem wm8 (a15 : Y15) (a20 : Y20) (a24 : Y24) (a26 : Y26) (a28 : Y28) (a32 : Y32) (a33 : Y33) (a40 : Y40) (a43 : Y43) (a44 : Y44) (a45 : Y45) (a46 : Y46) (N : Nat) (s0 : Int × Int × List (List Int) × Unit) (by1 : List Int) (size2 : Int) : callF (E8 a15 a20 a24 a26 a28 a32 a33 a40 a43 a44 a45 a46) lv8 N en8 c8 (resOf Tryd.f8) 287 [.dv (.pair (.int .u8) (.pair (.int .u8) (.pair (.sl (.arr 4 (.int .u8))) (.unit)))) s0, .dv (.arr 4 (.int .u8)) by1, .dv (.int .u8) size2] [] dec8 = (a40 s0).bind fun r1 =>
      chk (decide (0 ≤ (0 : Int) ∧ (0 : Int) < (r1.2.1.length : Int))) (chk (mkOk ((r1.2.1.getD 0 ([] : List Int)).length : Int) ((r1.2.1.getD 0 ([] : List Int)).length : Int) 8) ((R8_0 a15 a20 a24 a26 a28 a32 a33 a40 a43 a44 a45 a46 N N (Sl8a by1 size2 r1 (0 : Int) (List.replicate (((r1.2.1.getD 0 ([] : List Int)).length : Int).toNat) (0 : Int)))))) := by kernel_rfl
theorem k8 (a15 : Y15) (a20 : Y20) (a24 : Y24) (a26 : Y26) (a28 : Y28) (a32 : Y32) (a33 : Y33) (a40 : Y40) (a43 : Y43) (a44 : Y44) (a45 : Y45) (a46 : Y46) (N : Nat) (s0 : Int × Int × List (List Int) × Unit) (by1 : List Int) (size2 : Int) : callF (E8 a15 a20 a24 a26 a28 a32 a33 a40 a43 a44 a45 a46) lv8 N en8 c8 (resOf Tryd.f8) 287 [.dv (.pair (.int .u8) (.pair (.int .u8) (.pair (.sl (.arr 4 (.int .u8))) (.unit)))) s0, .dv (.arr 4 (.int .u8)) by1, .dv (.int .u8) size2] [] dec8 = m8 a15 a20 a24 a26 a28 a32 a33 a40 a43 a44 a45 a46 N s0 by1 size2 := by rw [wm8]; simp only [m8, ql8a]
theorem ok8 (a15 : Y15) (a20 : Y20) (a24 : Y24) (a26 : Y26) (a28 : Y28) (a32 : Y32) (a33 : Y33) (a40 : Y40) (a43 : Y43) (a44 : Y44) (a45 : Y45) (a46 : Y46) (h15 : FnOk Tryd.prog 15 (F15 a15)) (h20 : FnOk Tryd.prog 20 (F20 a20)) (h24 : FnOk Tryd.prog 24 (F24 a24)) (h26 : FnOk Tryd.prog 26 (F26 a26)) (h28 : FnOk Tryd.prog 28 (F28 a28)) (h32 : FnOk Tryd.prog 32 (F32 a32)) (h33 : FnOk Tryd.prog 33 (F33 a33)) (h40 : FnOk Tryd.prog 40 (F40 a40)) (h43 : FnOk Tryd.prog 43 (F43 a43)) (h44 : FnOk Tryd.prog 44 (F44 a44)) (h45 : FnOk Tryd.prog 45 (F45 a45)) (h46 : FnOk Tryd.prog 46 (F46 a46)) (a : Y8) (h : ∀ s0 by1 size2 r, a s0 by1 size2 = some r → (∃ N, m8 a15 a20 a24 a26 a28 a32 a33 a40 a43 a44 a45 a46 N s0 by1 size2 = some r)) : FnOk Tryd.prog 8 (F8 a) := by
  intro args Of x hx
  simp only [F8] at hx
  split at hx
  · rename_i s0 by1 size2
    obtain ⟨N, hN⟩ := h _ _ _ _ hx
    refine lifted (L := [(15, F15 a15), (20, F20 a20), (24, F24 a24), (26, F26 a26), (28, F28 a28), (32, F32 a32), (33, F33 a33), (40, F40 a40), (43, F43 a43), (44, F44 a44), (45, F45 a45), (46, F46 a46)]) (rc := (fun i => ([(16, [some (.nsl (.int .i64))])] : List (Nat × List (Option DT))).lookup i)) (fz := nfz) (fn := Tryd.f8) (by kernel_rfl) (by kernel_rfl) (by kernel_rfl) (by kernel_rfl) rfl ?_ ((k8 a15 a20 a24 a26 a28 a32 a33 a40 a43 a44 a45 a46 N _ _ _).trans hN) ?_
    · intro p hp; simp only [List.mem_cons, List.not_mem_nil, or_false] at hp; rcases hp with rfl | rfl | rfl | rfl | rfl | rfl | rfl | rfl | rfl | rfl | rfl | rfl
      · exact h15
      · exact h20
      · exact h24
      · exact h26
      · exact h28
      · exact h32
      · exact h33
      · exact h40
      · exact h43
      · exact h44
      · exact h45
      · exact h46
    · intro l o hd
      simp only [dec8] at hd
      split at hd
      · obtain rfl := Option.some.inj hd; exact ⟨rfl, rfl⟩
      · cases hd
  · cases hx
end Go.Proofs.YtbjfbbfglkmadaaDoor
