/-
  Functions 9, told as plain functions.
-/
import Derived.Test.YtbjfbbfglkmadaaDoorQFI
namespace Go.Proofs.YtbjfbbfglkmadaaDoor
open Go.RowKit
set_option linter.unusedVariables false
def E9 (a15 : Y15) (a32 : Y32) (a34 : Y34) (a36 : Y36) (a40 : Y40) (a44 : Y44) (a45 : Y45) (a46 : Y46) : Env := mkE TI TY [(15, F15 a15), (32, F32 a32), (34, F34 a34), (36, F36 a36), (40, F40 a40), (44, F44 a44), (45, F45 a45), (46, F46 a46)] (fun i => ([(7, [some (.nsl (.int .i64))])] : List (Nat × List (Option DT))).lookup i) nfz
noncomputable def c9 : Code := bodyOf Tryd.f9
def nm9_0 : Norm := ⟨[5, 6, 7, 8, 9], [5], [], []⟩
def nm9_1 : Norm := ⟨[5, 6, 7, 8, 9, 10, 63, 64, 65], [5], [], []⟩
def lv9 : Nat → Option Norm := norms [(6, nm9_0), (11, nm9_1)]
def en9 : End := ⟨[], ⟨[135], [], [], []⟩⟩
def dec9 (l : List TV) (o : List (Nat × TO)) : Option (Bool) := match l, o with | [.dv (.bool) x0], [] => some (x0) | _, _ => none
def Sl9b (size1 : Int) (r1 : Int × List (List Int) × Unit) (set9_a : Int) (r2 : List Int) (best7_b : Option (List Int)) (who8_b : Int) (t65_b : Int) : TS := ⟨slots 135 [(5, .ptr 5 0 []), (6, .dv (.int .i64) (w64 ((1 : Int) + (Int.tmod (w64 (size1)) (4 : Int))))), (7, .dv (.nsl (.int .i64)) best7_b), (8, .dv (.int .i64) who8_b), (9, .dv (.int .i64) set9_a), (10, .dv (.sl (.int .i64)) r2), (63, .dv (.sl (.sl (.int .i64))) r1.2.1), (64, .dv (.int .i64) (r1.2.1.length : Int)), (65, .dv (.int .i64) t65_b)], [(5, .row (.pair (.int .i64) (.pair (.sl (.sl (.int .i64))) (.unit))) ([r1] : List Cd))]⟩
def Sl9a (size1 : Int) (r1 : Int × List (List Int) × Unit) (best7_a : Option (List Int)) (who8_a : Int) (set9_a : Int) : TS := ⟨slots 135 [(5, .ptr 5 0 []), (6, .dv (.int .i64) (w64 ((1 : Int) + (Int.tmod (w64 (size1)) (4 : Int))))), (7, .dv (.nsl (.int .i64)) best7_a), (8, .dv (.int .i64) who8_a), (9, .dv (.int .i64) set9_a)], [(5, .row (.pair (.int .i64) (.pair (.sl (.sl (.int .i64))) (.unit))) ([r1] : List Cd))]⟩
noncomputable def K9_0 (a15 : Y15) (a32 : Y32) (a34 : Y34) (a36 : Y36) (a40 : Y40) (a44 : Y44) (a45 : Y45) (a46 : Y46) (N : Nat) : Kont (Bool) := kont (E9 a15 a32 a34 a36 a40 a44 a45 a46) lv9 N c9 [1, 1, 1, 1, 1, 0, 1, 0] (fin TI en9 (resOf Tryd.f9) dec9)
noncomputable def R9_0 (a15 : Y15) (a32 : Y32) (a34 : Y34) (a36 : Y36) (a40 : Y40) (a44 : Y44) (a45 : Y45) (a46 : Y46) (N : Nat) (m : Nat) : TS → Option (Bool) := loopK (den (E9 a15 a32 a34 a36 a40 a44 a45 a46) lv9 N (sub c9 [1, 1, 1, 1, 1, 0, 1, 0, 0])) (TS.norm nm9_0) (K9_0 a15 a32 a34 a36 a40 a44 a45 a46 N) m
noncomputable def K9_1 (a15 : Y15) (a32 : Y32) (a34 : Y34) (a36 : Y36) (a40 : Y40) (a44 : Y44) (a45 : Y45) (a46 : Y46) (N : Nat) (T9_0 : TS → Option (Bool)) : Kont (Bool) := kont (E9 a15 a32 a34 a36 a40 a44 a45 a46) lv9 N (sub c9 [1, 1, 1, 1, 1, 0, 1, 0, 0]) [1, 0, 0, 1, 1, 1, 0] (kloop (TS.norm nm9_0) (K9_0 a15 a32 a34 a36 a40 a44 a45 a46 N) T9_0)
noncomputable def R9_1 (a15 : Y15) (a32 : Y32) (a34 : Y34) (a36 : Y36) (a40 : Y40) (a44 : Y44) (a45 : Y45) (a46 : Y46) (N : Nat) (T9_0 : TS → Option (Bool)) (m : Nat) : TS → Option (Bool) := loopK (den (E9 a15 a32 a34 a36 a40 a44 a45 a46) lv9 N (sub c9 [1, 1, 1, 1, 1, 0, 1, 0, 0, 1, 0, 0, 1, 1, 1, 0, 0])) (TS.norm nm9_1) (K9_1 a15 a32 a34 a36 a40 a44 a45 a46 N T9_0) m
def l9b (a15 : Y15) (a32 : Y32) (a34 : Y34) (a36 : Y36) (a40 : Y40) (a44 : Y44) (a45 : Y45) (a46 : Y46) (N : Nat) (size1 : Int) (r1 : Int × List (List Int) × Unit) (set9_a : Int) (r2 : List Int) (rec_l9a : (Option (List Int)) → Int → Int → Option (Bool)) : Nat → (Option (List Int)) → Int → Int → Option (Bool)
  | 0, _, _, _ => none
  | n + 1, best7_b, who8_b, t65_b => cond (decide (t65_b < (r1.2.1.length : Int))) (chk (decide (0 ≤ t65_b ∧ t65_b < (r1.2.1.length : Int))) (chk (decide (0 ≤ t65_b)) (cond ((bAnd .i64 (Int.fdiv set9_a (2 ^ min (Int.toNat t65_b) 64)) (1 : Int)) == (0 : Int)) ((a45 r1 set9_a (r1.2.1.getD t65_b.toNat ([] : List Int))).bind fun r4 =>
      cond (r4) (chk (decide (0 < r2.length)) ((rec_l9a (some r2) t65_b (w64 (set9_a + (1 : Int))))))
      ((l9b a15 a32 a34 a36 a40 a44 a45 a46 N size1 r1 set9_a r2 rec_l9a n best7_b who8_b (w64 (t65_b + (1 : Int))))))
      ((l9b a15 a32 a34 a36 a40 a44 a45 a46 N size1 r1 set9_a r2 rec_l9a n best7_b who8_b (w64 (t65_b + (1 : Int))))))))
      ((rec_l9a best7_b who8_b (w64 (set9_a + (1 : Int)))))
theorem wl9b (a15 : Y15) (a32 : Y32) (a34 : Y34) (a36 : Y36) (a40 : Y40) (a44 : Y44) (a45 : Y45) (a46 : Y46) (N : Nat) (size1 : Int) (r1 : Int × List (List Int) × Unit) (set9_a : Int) (r2 : List Int) (T9_0 : TS → Option (Bool)) (m : Nat) (best7_b : Option (List Int)) (who8_b : Int) (t65_b : Int) : R9_1 a15 a32 a34 a36 a40 a44 a45 a46 N T9_0 (m + 1) (Sl9b size1 r1 set9_a r2 best7_b who8_b t65_b) = cond (decide (t65_b < (r1.2.1.length : Int))) (chk (decide (0 ≤ t65_b ∧ t65_b < (r1.2.1.length : Int))) (chk (decide (0 ≤ t65_b)) (cond ((bAnd .i64 (Int.fdiv set9_a (2 ^ min (Int.toNat t65_b) 64)) (1 : Int)) == (0 : Int)) ((a45 r1 set9_a (r1.2.1.getD t65_b.toNat ([] : List Int))).bind fun r4 =>
      cond (r4) (chk (decide (0 < r2.length)) ((T9_0 (Sl9a size1 r1 (some r2) t65_b (w64 (set9_a + (1 : Int)))))))
      ((R9_1 a15 a32 a34 a36 a40 a44 a45 a46 N T9_0 m (Sl9b size1 r1 set9_a r2 best7_b who8_b (w64 (t65_b + (1 : Int)))))))
      ((R9_1 a15 a32 a34 a36 a40 a44 a45 a46 N T9_0 m (Sl9b size1 r1 set9_a r2 best7_b who8_b (w64 (t65_b + (1 : Int)))))))))
      ((T9_0 (Sl9a size1 r1 best7_b who8_b (w64 (set9_a + (1 : Int)))))) := by kernel_rfl
theorem ql9b (a15 : Y15) (a32 : Y32) (a34 : Y34) (a36 : Y36) (a40 : Y40) (a44 : Y44) (a45 : Y45) (a46 : Y46) (N : Nat) (size1 : Int) (r1 : Int × List (List Int) × Unit) (set9_a : Int) (r2 : List Int) (T9_0 : TS → Option (Bool)) : ∀ (m : Nat) (best7_b : Option (List Int)) (who8_b : Int) (t65_b : Int), R9_1 a15 a32 a34 a36 a40 a44 a45 a46 N T9_0 m (Sl9b size1 r1 set9_a r2 best7_b who8_b t65_b) = l9b a15 a32 a34 a36 a40 a44 a45 a46 N size1 r1 set9_a r2 (fun y0 y1 y2 => T9_0 (Sl9a size1 r1 y0 y1 y2)) m best7_b who8_b t65_b
        | 0, _, _, _ => rfl
        | m + 1, best7_b, who8_b, t65_b => by rw [wl9b]; simp only [l9b, ql9b a15 a32 a34 a36 a40 a44 a45 a46 N size1 r1 set9_a r2 T9_0 m]
def l9a (a15 : Y15) (a32 : Y32) (a34 : Y34) (a36 : Y36) (a40 : Y40) (a44 : Y44) (a45 : Y45) (a46 : Y46) (N : Nat) (size1 : Int) (r1 : Int × List (List Int) × Unit) : Nat → (Option (List Int)) → Int → Int → Option (Bool)
  | 0, _, _, _ => none
  | n + 1, best7_a, who8_a, set9_a => chk (decide (0 ≤ (r1.2.1.length : Int))) (cond (decide (set9_a < (IntKind.wrap .i64 ((1 : Int) * 2 ^ min (Int.toNat (r1.2.1.length : Int)) 64)))) ((a44 set9_a).bind fun r2 =>
      cond (decide ((r2.length : Int) > (w64 ((1 : Int) + (Int.tmod (w64 (size1)) (4 : Int)))))) ((l9a a15 a32 a34 a36 a40 a44 a45 a46 N size1 r1 n best7_a who8_a (w64 (set9_a + (1 : Int)))))
      (cond (!best7_a.isNone) (cond (decide ((r2.length : Int) > ((best7_a.getD []).length : Int))) ((l9a a15 a32 a34 a36 a40 a44 a45 a46 N size1 r1 n best7_a who8_a (w64 (set9_a + (1 : Int)))))
      (cond ((r2.length : Int) == ((best7_a.getD []).length : Int)) ((a46 r2 (best7_a.getD [])).bind fun r3 =>
      cond (!r3) ((l9a a15 a32 a34 a36 a40 a44 a45 a46 N size1 r1 n best7_a who8_a (w64 (set9_a + (1 : Int)))))
      ((l9b a15 a32 a34 a36 a40 a44 a45 a46 N size1 r1 set9_a r2 (fun y0 y1 y2 => (l9a a15 a32 a34 a36 a40 a44 a45 a46 N size1 r1 n y0 y1 y2)) N best7_a who8_a (0 : Int))))
      ((l9b a15 a32 a34 a36 a40 a44 a45 a46 N size1 r1 set9_a r2 (fun y0 y1 y2 => (l9a a15 a32 a34 a36 a40 a44 a45 a46 N size1 r1 n y0 y1 y2)) N best7_a who8_a (0 : Int)))))
      ((l9b a15 a32 a34 a36 a40 a44 a45 a46 N size1 r1 set9_a r2 (fun y0 y1 y2 => (l9a a15 a32 a34 a36 a40 a44 a45 a46 N size1 r1 n y0 y1 y2)) N best7_a who8_a (0 : Int)))))
      ((a34 r1 (w64 ((1 : Int) + (Int.tmod (w64 (size1)) (4 : Int))))).bind fun r5 =>
      cond (best7_a.isNone) (cond (r5.2.2 == (5 : Int)) (cond ((r5.1.length : Int) == (0 : Int)) (cond (r5.2.1 == (0 : Int)) ((a15).bind fun r6 =>
      some r6)
      (some false))
      (some false))
      (some false))
      (cond (r5.2.2 != (0 : Int)) (some false)
      ((a32 r5.1 (best7_a.getD [])).bind fun r7 =>
      cond (!r7) (some false)
      (cond (r5.2.1 != who8_a) (some false)
      ((a36 r1).bind fun r8 =>
      cond (decide (((best7_a.getD []).length : Int) > (2 : Int))) ((a15).bind fun r9 =>
      some r9)
      (cond (r8.2 == (0 : Int)) ((a15).bind fun r10 =>
      some r10)
      (some false))))))))
theorem wl9a (a15 : Y15) (a32 : Y32) (a34 : Y34) (a36 : Y36) (a40 : Y40) (a44 : Y44) (a45 : Y45) (a46 : Y46) (N : Nat) (size1 : Int) (r1 : Int × List (List Int) × Unit) (m : Nat) (best7_a : Option (List Int)) (who8_a : Int) (set9_a : Int) : R9_0 a15 a32 a34 a36 a40 a44 a45 a46 N (m + 1) (Sl9a size1 r1 best7_a who8_a set9_a) = chk (decide (0 ≤ (r1.2.1.length : Int))) (cond (decide (set9_a < (IntKind.wrap .i64 ((1 : Int) * 2 ^ min (Int.toNat (r1.2.1.length : Int)) 64)))) ((a44 set9_a).bind fun r2 =>
      cond (decide ((r2.length : Int) > (w64 ((1 : Int) + (Int.tmod (w64 (size1)) (4 : Int)))))) ((R9_0 a15 a32 a34 a36 a40 a44 a45 a46 N m (Sl9a size1 r1 best7_a who8_a (w64 (set9_a + (1 : Int))))))
      (cond (!best7_a.isNone) (cond (decide ((r2.length : Int) > ((best7_a.getD []).length : Int))) ((R9_0 a15 a32 a34 a36 a40 a44 a45 a46 N m (Sl9a size1 r1 best7_a who8_a (w64 (set9_a + (1 : Int))))))
      (cond ((r2.length : Int) == ((best7_a.getD []).length : Int)) ((a46 r2 (best7_a.getD [])).bind fun r3 =>
      cond (!r3) ((R9_0 a15 a32 a34 a36 a40 a44 a45 a46 N m (Sl9a size1 r1 best7_a who8_a (w64 (set9_a + (1 : Int))))))
      ((R9_1 a15 a32 a34 a36 a40 a44 a45 a46 N (R9_0 a15 a32 a34 a36 a40 a44 a45 a46 N m) N (Sl9b size1 r1 set9_a r2 best7_a who8_a (0 : Int)))))
      ((R9_1 a15 a32 a34 a36 a40 a44 a45 a46 N (R9_0 a15 a32 a34 a36 a40 a44 a45 a46 N m) N (Sl9b size1 r1 set9_a r2 best7_a who8_a (0 : Int))))))
      ((R9_1 a15 a32 a34 a36 a40 a44 a45 a46 N (R9_0 a15 a32 a34 a36 a40 a44 a45 a46 N m) N (Sl9b size1 r1 set9_a r2 best7_a who8_a (0 : Int))))))
      ((a34 r1 (w64 ((1 : Int) + (Int.tmod (w64 (size1)) (4 : Int))))).bind fun r5 =>
      cond (best7_a.isNone) (cond (r5.2.2 == (5 : Int)) (cond ((r5.1.length : Int) == (0 : Int)) (cond (r5.2.1 == (0 : Int)) ((a15).bind fun r6 =>
      some r6)
      (some false))
      (some false))
      (some false))
      (cond (r5.2.2 != (0 : Int)) (some false)
      ((a32 r5.1 (best7_a.getD [])).bind fun r7 =>
      cond (!r7) (some false)
      (cond (r5.2.1 != who8_a) (some false)
      ((a36 r1).bind fun r8 =>
      cond (decide (((best7_a.getD []).length : Int) > (2 : Int))) ((a15).bind fun r9 =>
      some r9)
      (cond (r8.2 == (0 : Int)) ((a15).bind fun r10 =>
      some r10)
      (some false)))))))) := by kernel_rfl
theorem ql9a (a15 : Y15) (a32 : Y32) (a34 : Y34) (a36 : Y36) (a40 : Y40) (a44 : Y44) (a45 : Y45) (a46 : Y46) (N : Nat) (size1 : Int) (r1 : Int × List (List Int) × Unit) : ∀ (m : Nat) (best7_a : Option (List Int)) (who8_a : Int) (set9_a : Int), R9_0 a15 a32 a34 a36 a40 a44 a45 a46 N m (Sl9a size1 r1 best7_a who8_a set9_a) = l9a a15 a32 a34 a36 a40 a44 a45 a46 N size1 r1 m best7_a who8_a set9_a
        | 0, _, _, _ => rfl
        | m + 1, best7_a, who8_a, set9_a => by rw [wl9a]; simp only [l9a, ql9b, ql9a a15 a32 a34 a36 a40 a44 a45 a46 N size1 r1 m]
def m9 (a15 : Y15) (a32 : Y32) (a34 : Y34) (a36 : Y36) (a40 : Y40) (a44 : Y44) (a45 : Y45) (a46 : Y46) (N : Nat) (s0 : Int × Int × List (List Int) × Unit) (size1 : Int) : Option (Bool) :=
      (a40 s0).bind fun r1 =>
      (l9a a15 a32 a34 a36 a40 a44 a45 a46 N size1 r1 N (none : Option (List Int)) (0 : Int) (1 : Int))
theorem wm9 (a15 : Y15) (a32 : Y32) (a34 : Y34) (a36 : Y36) (a40 : Y40) (a44 : Y44) (a45 : Y45) (a46 : Y46) (N : Nat) (s0 : Int × Int × List (List Int) × Unit) (size1 : Int) : callF (E9 a15 a32 a34 a36 a40 a44 a45 a46) lv9 N en9 c9 (resOf Tryd.f9) 133 [.dv (.pair (.int .u8) (.pair (.int .u8) (.pair (.sl (.arr 4 (.int .u8))) (.unit)))) s0, .dv (.int .u8) size1] [] dec9 = (a40 s0).bind fun r1 =>
      (R9_0 a15 a32 a34 a36 a40 a44 a45 a46 N N (Sl9a size1 r1 (none : Option (List Int)) (0 : Int) (1 : Int))) := by kernel_rfl
theorem k9 (a15 : Y15) (a32 : Y32) (a34 : Y34) (a36 : Y36) (a40 : Y40) (a44 : Y44) (a45 : Y45) (a46 : Y46) (N : Nat) (s0 : Int × Int × List (List Int) × Unit) (size1 : Int) : callF (E9 a15 a32 a34 a36 a40 a44 a45 a46) lv9 N en9 c9 (resOf Tryd.f9) 133 [.dv (.pair (.int .u8) (.pair (.int .u8) (.pair (.sl (.arr 4 (.int .u8))) (.unit)))) s0, .dv (.int .u8) size1] [] dec9 = m9 a15 a32 a34 a36 a40 a44 a45 a46 N s0 size1 := by rw [wm9]; simp only [m9, ql9a]
theorem ok9 (a15 : Y15) (a32 : Y32) (a34 : Y34) (a36 : Y36) (a40 : Y40) (a44 : Y44) (a45 : Y45) (a46 : Y46) (h15 : FnOk Tryd.prog 15 (F15 a15)) (h32 : FnOk Tryd.prog 32 (F32 a32)) (h34 : FnOk Tryd.prog 34 (F34 a34)) (h36 : FnOk Tryd.prog 36 (F36 a36)) (h40 : FnOk Tryd.prog 40 (F40 a40)) (h44 : FnOk Tryd.prog 44 (F44 a44)) (h45 : FnOk Tryd.prog 45 (F45 a45)) (h46 : FnOk Tryd.prog 46 (F46 a46)) (a : Y9) (h : ∀ s0 size1 r, a s0 size1 = some r → (∃ N, m9 a15 a32 a34 a36 a40 a44 a45 a46 N s0 size1 = some r)) : FnOk Tryd.prog 9 (F9 a) := by
  intro args Of x hx
  simp only [F9] at hx
  split at hx
  · rename_i s0 size1
    obtain ⟨N, hN⟩ := h _ _ _ hx
    refine lifted (L := [(15, F15 a15), (32, F32 a32), (34, F34 a34), (36, F36 a36), (40, F40 a40), (44, F44 a44), (45, F45 a45), (46, F46 a46)]) (rc := (fun i => ([(7, [some (.nsl (.int .i64))])] : List (Nat × List (Option DT))).lookup i)) (fz := nfz) (fn := Tryd.f9) (by kernel_rfl) (by kernel_rfl) (by kernel_rfl) (by kernel_rfl) rfl ?_ ((k9 a15 a32 a34 a36 a40 a44 a45 a46 N _ _).trans hN) ?_
    · intro p hp; simp only [List.mem_cons, List.not_mem_nil, or_false] at hp; rcases hp with rfl | rfl | rfl | rfl | rfl | rfl | rfl | rfl
      · exact h15
      · exact h32
      · exact h34
      · exact h36
      · exact h40
      · exact h44
      · exact h45
      · exact h46
    · intro l o hd
      simp only [dec9] at hd
      split at hd
      · obtain rfl := Option.some.inj hd; exact ⟨rfl, rfl⟩
      · cases hd
  · cases hx
end Go.Proofs.YtbjfbbfglkmadaaDoor
