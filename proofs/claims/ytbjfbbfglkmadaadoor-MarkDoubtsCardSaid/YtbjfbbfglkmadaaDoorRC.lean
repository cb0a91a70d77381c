/-
  Functions 77, 69, told as plain functions.
-/
import Derived.Test.YtbjfbbfglkmadaaDoorQFI
namespace Go.Proofs.YtbjfbbfglkmadaaDoor
open Go.RowKit
set_option linter.unusedVariables false
def E77 : Env := mkE TI TY [] nrc nfz
noncomputable def c77 : Code := bodyOf Tryd.f77
def nm77_0 : Norm := ⟨[0, 1, 5], [], [], []⟩
def lv77 : Nat → Option Norm := norms [(2, nm77_0)]
def en77 : End := ⟨[], ⟨[41], [], [], []⟩⟩
def dec77 (l : List TV) (o : List (Nat × TO)) : Option (Bool) := match l, o with | [.dv (.bool) x0], [] => some (x0) | _, _ => none
def Sl77a (a0 : List Int) (b1 : List Int) (i5_a : Int) : TS := ⟨slots 41 [(0, .dv (.sl (.int .i64)) a0), (1, .dv (.sl (.int .i64)) b1), (5, .dv (.int .i64) i5_a)], []⟩
noncomputable def K77_0 (N : Nat) : Kont (Bool) := kont (E77) lv77 N c77 [1, 0, 1, 0] (fin TI en77 (resOf Tryd.f77) dec77)
noncomputable def R77_0 (N : Nat) (m : Nat) : TS → Option (Bool) := loopK (den (E77) lv77 N (sub c77 [1, 0, 1, 0, 0])) (TS.norm nm77_0) (K77_0 N) m
def l77a (N : Nat) (a0 : List Int) (b1 : List Int) : Nat → Int → Option (Bool)
  | 0, _ => none
  | n + 1, i5_a => cond (decide (i5_a < (a0.length : Int))) (cond (decide (i5_a < (b1.length : Int))) (chk (decide (0 ≤ i5_a ∧ i5_a < (a0.length : Int))) (chk (decide (0 ≤ i5_a ∧ i5_a < (b1.length : Int))) (cond ((a0.getD i5_a.toNat (0 : Int)) != (b1.getD i5_a.toNat (0 : Int))) (chk (decide (0 ≤ i5_a ∧ i5_a < (a0.length : Int))) (chk (decide (0 ≤ i5_a ∧ i5_a < (b1.length : Int))) (some (decide ((a0.getD i5_a.toNat (0 : Int)) < (b1.getD i5_a.toNat (0 : Int)))))))
      ((l77a N a0 b1 n (w64 (i5_a + (1 : Int))))))))
      (some (decide ((a0.length : Int) < (b1.length : Int)))))
      (some (decide ((a0.length : Int) < (b1.length : Int))))
theorem wl77a (N : Nat) (a0 : List Int) (b1 : List Int) (m : Nat) (i5_a : Int) : R77_0 N (m + 1) (Sl77a a0 b1 i5_a) = cond (decide (i5_a < (a0.length : Int))) (cond (decide (i5_a < (b1.length : Int))) (chk (decide (0 ≤ i5_a ∧ i5_a < (a0.length : Int))) (chk (decide (0 ≤ i5_a ∧ i5_a < (b1.length : Int))) (cond ((a0.getD i5_a.toNat (0 : Int)) != (b1.getD i5_a.toNat (0 : Int))) (chk (decide (0 ≤ i5_a ∧ i5_a < (a0.length : Int))) (chk (decide (0 ≤ i5_a ∧ i5_a < (b1.length : Int))) (some (decide ((a0.getD i5_a.toNat (0 : Int)) < (b1.getD i5_a.toNat (0 : Int)))))))
      ((R77_0 N m (Sl77a a0 b1 (w64 (i5_a + (1 : Int)))))))))
      (some (decide ((a0.length : Int) < (b1.length : Int)))))
      (some (decide ((a0.length : Int) < (b1.length : Int)))) := by kernel_rfl
theorem ql77a (N : Nat) (a0 : List Int) (b1 : List Int) : ∀ (m : Nat) (i5_a : Int), R77_0 N m (Sl77a a0 b1 i5_a) = l77a N a0 b1 m i5_a
        | 0, _ => rfl
        | m + 1, i5_a => by rw [wl77a]; simp only [l77a, ql77a N a0 b1 m]
def m77 (N : Nat) (a0 : List Int) (b1 : List Int) : Option (Bool) :=
      (l77a N a0 b1 N (0 : Int))
theorem wm77 (N : Nat) (a0 : List Int) (b1 : List Int) : callF (E77) lv77 N en77 c77 (resOf Tryd.f77) 39 [.dv (.sl (.int .i64)) a0, .dv (.sl (.int .i64)) b1] [] dec77 = (R77_0 N N (Sl77a a0 b1 (0 : Int))) := by kernel_rfl
theorem k77 (N : Nat) (a0 : List Int) (b1 : List Int) : callF (E77) lv77 N en77 c77 (resOf Tryd.f77) 39 [.dv (.sl (.int .i64)) a0, .dv (.sl (.int .i64)) b1] [] dec77 = m77 N a0 b1 := by rw [wm77]; simp only [m77, ql77a]
theorem ok77 (a : Y77) (h : ∀ a0 b1 r, a a0 b1 = some r → (∃ N, m77 N a0 b1 = some r)) : FnOk Tryd.prog 77 (F77 a) := by
  intro args Of x hx
  simp only [F77] at hx
  split at hx
  · rename_i a0 b1
    obtain ⟨N, hN⟩ := h _ _ _ hx
    refine lifted (L := []) (rc := nrc) (fz := nfz) (fn := Tryd.f77) (by kernel_rfl) (by kernel_rfl) (by kernel_rfl) (by kernel_rfl) rfl ?_ ((k77 N _ _).trans hN) ?_
    · intro p hp; cases hp
    · intro l o hd
      simp only [dec77] at hd
      split at hd
      · obtain rfl := Option.some.inj hd; exact ⟨rfl, rfl⟩
      · cases hd
  · cases hx
def E69 (a77 : Y77) : Env := mkE TI TY [(77, F77 a77)] nrc nfz
noncomputable def c69 : Code := bodyOf Tryd.f69
def nm69_0 : Norm := ⟨[1, 2, 6], [2], [(.slot 5, 1005, .sl (.int .i64))], []⟩
def nm69_1 : Norm := ⟨[1, 2, 5, 6, 8], [2, 1005], [(.slot 7, 1007, .int .i64)], []⟩
def nm69_2 : Norm := ⟨[1, 2, 5, 6, 9], [2, 41], [], []⟩
def lv69 : Nat → Option Norm := norms [(3, nm69_0), (7, nm69_1), (14, nm69_2)]
def en69 : End := ⟨[(78, .sl (.sl (.int .i64)))], ⟨[78], [], [], []⟩⟩
def dec69 (l : List TV) (o : List (Nat × TO)) : Option (List (List Int)) := match l, o with | [.dv (.sl (.sl (.int .i64))) x0], [] => some (x0) | _, _ => none
def Sl69c (c0 : Int × List (List Int) × Unit) (size1 : Int) (set6_a : Int) (k9_c : Int) (o41_c : List (List Int)) : TS := ⟨slots 78 [(1, .dv (.int .i64) size1), (2, .ptr 2 0 []), (5, .row 41), (6, .dv (.int .i64) set6_a), (9, .dv (.int .i64) k9_c)], [(2, .row (.pair (.int .i64) (.pair (.sl (.sl (.int .i64))) (.unit))) ([c0] : List Cd)), (41, .row (.sl (.int .i64)) o41_c)]⟩
def Sl69b (c0 : Int × List (List Int) × Unit) (size1 : Int) (set6_a : Int) (out5_a : List (List Int)) (i8_b : Int) (l7_b : List Int) : TS := ⟨slots 78 [(1, .dv (.int .i64) size1), (2, .ptr 2 0 []), (5, .row 1005), (6, .dv (.int .i64) set6_a), (7, .row 1007), (8, .dv (.int .i64) i8_b)], [(1007, .row (.int .i64) l7_b), (2, .row (.pair (.int .i64) (.pair (.sl (.sl (.int .i64))) (.unit))) ([c0] : List Cd)), (1005, .row (.sl (.int .i64)) out5_a)]⟩
def Sl69a (c0 : Int × List (List Int) × Unit) (size1 : Int) (set6_a : Int) (out5_a : List (List Int)) : TS := ⟨slots 78 [(1, .dv (.int .i64) size1), (2, .ptr 2 0 []), (5, .row 1005), (6, .dv (.int .i64) set6_a)], [(1005, .row (.sl (.int .i64)) out5_a), (2, .row (.pair (.int .i64) (.pair (.sl (.sl (.int .i64))) (.unit))) ([c0] : List Cd))]⟩
noncomputable def K69_0 (a77 : Y77) (N : Nat) : Kont (List (List Int)) := kont (E69 a77) lv69 N c69 [1, 1, 0, 1, 0] (fin TI en69 (resOf Tryd.f69) dec69)
noncomputable def R69_0 (a77 : Y77) (N : Nat) (m : Nat) : TS → Option (List (List Int)) := loopK (den (E69 a77) lv69 N (sub c69 [1, 1, 0, 1, 0, 0])) (TS.norm nm69_0) (K69_0 a77 N) m
noncomputable def K69_1 (a77 : Y77) (N : Nat) (T69_0 : TS → Option (List (List Int))) : Kont (List (List Int)) := kont (E69 a77) lv69 N (sub c69 [1, 1, 0, 1, 0, 0]) [1, 0, 0, 1, 0, 1, 0] (kloop (TS.norm nm69_0) (K69_0 a77 N) T69_0)
noncomputable def R69_1 (a77 : Y77) (N : Nat) (T69_0 : TS → Option (List (List Int))) (m : Nat) : TS → Option (List (List Int)) := loopK (den (E69 a77) lv69 N (sub c69 [1, 1, 0, 1, 0, 0, 1, 0, 0, 1, 0, 1, 0, 0])) (TS.norm nm69_1) (K69_1 a77 N T69_0) m
noncomputable def K69_2 (a77 : Y77) (N : Nat) (T69_0 : TS → Option (List (List Int))) : Kont (List (List Int)) := kont (E69 a77) lv69 N (sub c69 [1, 1, 0, 1, 0, 0]) [1, 0, 0, 1, 1, 1, 1, 1, 0] (kloop (TS.norm nm69_0) (K69_0 a77 N) T69_0)
noncomputable def R69_2 (a77 : Y77) (N : Nat) (T69_0 : TS → Option (List (List Int))) (m : Nat) : TS → Option (List (List Int)) := loopK (den (E69 a77) lv69 N (sub c69 [1, 1, 0, 1, 0, 0, 1, 0, 0, 1, 1, 1, 1, 1, 0, 0])) (TS.norm nm69_2) (K69_2 a77 N T69_0) m
def l69c (a77 : Y77) (N : Nat) (c0 : Int × List (List Int) × Unit) (size1 : Int) (set6_a : Int) (rec_l69a : Int → (List (List Int)) → Option (List (List Int))) : Nat → Int → (List (List Int)) → Option (List (List Int))
  | 0, _, _ => none
  | n + 1, k9_c, o41_c => cond (decide (k9_c > (0 : Int))) (chk (decide (0 ≤ k9_c ∧ k9_c < (o41_c.length : Int))) (chk (decide (0 ≤ w64 (k9_c - (1 : Int)) ∧ w64 (k9_c - (1 : Int)) < (o41_c.length : Int))) ((a77 (o41_c.getD k9_c.toNat ([] : List Int)) (o41_c.getD ((w64 (k9_c - (1 : Int))).toNat) ([] : List Int))).bind fun r1 =>
      cond (r1) (chk (decide (0 ≤ w64 (k9_c - (1 : Int)) ∧ w64 (k9_c - (1 : Int)) < (o41_c.length : Int))) (chk (decide (0 ≤ k9_c ∧ k9_c < (o41_c.length : Int))) (chk (decide (0 ≤ k9_c ∧ k9_c < (o41_c.length : Int))) (chk (decide (0 ≤ w64 (k9_c - (1 : Int)) ∧ w64 (k9_c - (1 : Int)) < ((o41_c.set k9_c.toNat (o41_c.getD ((w64 (k9_c - (1 : Int))).toNat) ([] : List Int))).length : Int))) ((l69c a77 N c0 size1 set6_a rec_l69a n (w64 (k9_c - (1 : Int))) ((o41_c.set k9_c.toNat (o41_c.getD ((w64 (k9_c - (1 : Int))).toNat) ([] : List Int))).set ((w64 (k9_c - (1 : Int))).toNat) (o41_c.getD k9_c.toNat ([] : List Int)))))))))
      ((rec_l69a (w64 (set6_a + (1 : Int))) o41_c)))))
      ((rec_l69a (w64 (set6_a + (1 : Int))) o41_c))
theorem wl69c (a77 : Y77) (N : Nat) (c0 : Int × List (List Int) × Unit) (size1 : Int) (set6_a : Int) (T69_0 : TS → Option (List (List Int))) (m : Nat) (k9_c : Int) (o41_c : List (List Int)) : R69_2 a77 N T69_0 (m + 1) (Sl69c c0 size1 set6_a k9_c o41_c) = cond (decide (k9_c > (0 : Int))) (chk (decide (0 ≤ k9_c ∧ k9_c < (o41_c.length : Int))) (chk (decide (0 ≤ w64 (k9_c - (1 : Int)) ∧ w64 (k9_c - (1 : Int)) < (o41_c.length : Int))) ((a77 (o41_c.getD k9_c.toNat ([] : List Int)) (o41_c.getD ((w64 (k9_c - (1 : Int))).toNat) ([] : List Int))).bind fun r1 =>
      cond (r1) (chk (decide (0 ≤ w64 (k9_c - (1 : Int)) ∧ w64 (k9_c - (1 : Int)) < (o41_c.length : Int))) (chk (decide (0 ≤ k9_c ∧ k9_c < (o41_c.length : Int))) (chk (decide (0 ≤ k9_c ∧ k9_c < (o41_c.length : Int))) (chk (decide (0 ≤ w64 (k9_c - (1 : Int)) ∧ w64 (k9_c - (1 : Int)) < ((o41_c.set k9_c.toNat (o41_c.getD ((w64 (k9_c - (1 : Int))).toNat) ([] : List Int))).length : Int))) ((R69_2 a77 N T69_0 m (Sl69c c0 size1 set6_a (w64 (k9_c - (1 : Int))) ((o41_c.set k9_c.toNat (o41_c.getD ((w64 (k9_c - (1 : Int))).toNat) ([] : List Int))).set ((w64 (k9_c - (1 : Int))).toNat) (o41_c.getD k9_c.toNat ([] : List Int))))))))))
      ((T69_0 (Sl69a c0 size1 (w64 (set6_a + (1 : Int))) o41_c))))))
      ((T69_0 (Sl69a c0 size1 (w64 (set6_a + (1 : Int))) o41_c))) := by kernel_rfl
theorem ql69c (a77 : Y77) (N : Nat) (c0 : Int × List (List Int) × Unit) (size1 : Int) (set6_a : Int) (T69_0 : TS → Option (List (List Int))) : ∀ (m : Nat) (k9_c : Int) (o41_c : List (List Int)), R69_2 a77 N T69_0 m (Sl69c c0 size1 set6_a k9_c o41_c) = l69c a77 N c0 size1 set6_a (fun y0 y1 => T69_0 (Sl69a c0 size1 y0 y1)) m k9_c o41_c
        | 0, _, _ => rfl
        | m + 1, k9_c, o41_c => by rw [wl69c]; simp only [l69c, ql69c a77 N c0 size1 set6_a T69_0 m]
def l69b (a77 : Y77) (N : Nat) (c0 : Int × List (List Int) × Unit) (size1 : Int) (set6_a : Int) (out5_a : List (List Int)) (rec_l69a : Int → (List (List Int)) → Option (List (List Int))) : Nat → Int → (List Int) → Option (List (List Int))
  | 0, _, _ => none
  | n + 1, i8_b, l7_b => cond (decide (i8_b < (c0.2.1.length : Int))) (chk (decide (0 ≤ i8_b)) (cond ((bAnd .i64 (Int.fdiv set6_a (2 ^ min (Int.toNat i8_b) 64)) (1 : Int)) == (1 : Int)) (chk (small (l7_b.length + 1) 8) ((l69b a77 N c0 size1 set6_a out5_a rec_l69a n (w64 (i8_b + (1 : Int))) (l7_b ++ ([i8_b] : List Int)))))
      ((l69b a77 N c0 size1 set6_a out5_a rec_l69a n (w64 (i8_b + (1 : Int))) l7_b))))
      (cond (decide ((l7_b.length : Int) > size1)) ((rec_l69a (w64 (set6_a + (1 : Int))) out5_a))
      (chk (small (out5_a.length + 1) 24) ((l69c a77 N c0 size1 set6_a rec_l69a N (w64 (((out5_a ++ ([l7_b] : List (List Int))).length : Int) - (1 : Int))) (out5_a ++ ([l7_b] : List (List Int)))))))
theorem wl69b (a77 : Y77) (N : Nat) (c0 : Int × List (List Int) × Unit) (size1 : Int) (set6_a : Int) (out5_a : List (List Int)) (T69_0 : TS → Option (List (List Int))) (m : Nat) (i8_b : Int) (l7_b : List Int) : R69_1 a77 N T69_0 (m + 1) (Sl69b c0 size1 set6_a out5_a i8_b l7_b) = cond (decide (i8_b < (c0.2.1.length : Int))) (chk (decide (0 ≤ i8_b)) (cond ((bAnd .i64 (Int.fdiv set6_a (2 ^ min (Int.toNat i8_b) 64)) (1 : Int)) == (1 : Int)) (chk (small (l7_b.length + 1) 8) ((R69_1 a77 N T69_0 m (Sl69b c0 size1 set6_a out5_a (w64 (i8_b + (1 : Int))) (l7_b ++ ([i8_b] : List Int))))))
      ((R69_1 a77 N T69_0 m (Sl69b c0 size1 set6_a out5_a (w64 (i8_b + (1 : Int))) l7_b)))))
      (cond (decide ((l7_b.length : Int) > size1)) ((T69_0 (Sl69a c0 size1 (w64 (set6_a + (1 : Int))) out5_a)))
      (chk (small (out5_a.length + 1) 24) ((R69_2 a77 N T69_0 N (Sl69c c0 size1 set6_a (w64 (((out5_a ++ ([l7_b] : List (List Int))).length : Int) - (1 : Int))) (out5_a ++ ([l7_b] : List (List Int)))))))) := by kernel_rfl
theorem ql69b (a77 : Y77) (N : Nat) (c0 : Int × List (List Int) × Unit) (size1 : Int) (set6_a : Int) (out5_a : List (List Int)) (T69_0 : TS → Option (List (List Int))) : ∀ (m : Nat) (i8_b : Int) (l7_b : List Int), R69_1 a77 N T69_0 m (Sl69b c0 size1 set6_a out5_a i8_b l7_b) = l69b a77 N c0 size1 set6_a out5_a (fun y0 y1 => T69_0 (Sl69a c0 size1 y0 y1)) m i8_b l7_b
        | 0, _, _ => rfl
        | m + 1, i8_b, l7_b => by rw [wl69b]; simp only [l69b, ql69c, ql69b a77 N c0 size1 set6_a out5_a T69_0 m]
def l69a (a77 : Y77) (N : Nat) (c0 : Int × List (List Int) × Unit) (size1 : Int) : Nat → Int → (List (List Int)) → Option (List (List Int))
  | 0, _, _ => none
  | n + 1, set6_a, out5_a => chk (decide (0 ≤ (c0.2.1.length : Int))) (cond (decide (set6_a < (IntKind.wrap .i64 ((1 : Int) * 2 ^ min (Int.toNat (c0.2.1.length : Int)) 64)))) ((l69b a77 N c0 size1 set6_a out5_a (fun y0 y1 => (l69a a77 N c0 size1 n y0 y1)) N (0 : Int) ([] : List Int)))
      (some out5_a))
theorem wl69a (a77 : Y77) (N : Nat) (c0 : Int × List (List Int) × Unit) (size1 : Int) (m : Nat) (set6_a : Int) (out5_a : List (List Int)) : R69_0 a77 N (m + 1) (Sl69a c0 size1 set6_a out5_a) = chk (decide (0 ≤ (c0.2.1.length : Int))) (cond (decide (set6_a < (IntKind.wrap .i64 ((1 : Int) * 2 ^ min (Int.toNat (c0.2.1.length : Int)) 64)))) ((R69_1 a77 N (R69_0 a77 N m) N (Sl69b c0 size1 set6_a out5_a (0 : Int) ([] : List Int))))
      (some out5_a)) := by kernel_rfl
theorem ql69a (a77 : Y77) (N : Nat) (c0 : Int × List (List Int) × Unit) (size1 : Int) : ∀ (m : Nat) (set6_a : Int) (out5_a : List (List Int)), R69_0 a77 N m (Sl69a c0 size1 set6_a out5_a) = l69a a77 N c0 size1 m set6_a out5_a
        | 0, _, _ => rfl
        | m + 1, set6_a, out5_a => by rw [wl69a]; simp only [l69a, ql69b, ql69a a77 N c0 size1 m]
def m69 (a77 : Y77) (N : Nat) (c0 : Int × List (List Int) × Unit) (size1 : Int) : Option (List (List Int)) :=
      (l69a a77 N c0 size1 N (1 : Int) ([] : List (List Int)))
theorem wm69 (a77 : Y77) (N : Nat) (c0 : Int × List (List Int) × Unit) (size1 : Int) : callF (E69 a77) lv69 N en69 c69 (resOf Tryd.f69) 76 [.dv (.pair (.int .i64) (.pair (.sl (.sl (.int .i64))) (.unit))) c0, .dv (.int .i64) size1] [] dec69 = (R69_0 a77 N N (Sl69a c0 size1 (1 : Int) ([] : List (List Int)))) := by kernel_rfl
theorem k69 (a77 : Y77) (N : Nat) (c0 : Int × List (List Int) × Unit) (size1 : Int) : callF (E69 a77) lv69 N en69 c69 (resOf Tryd.f69) 76 [.dv (.pair (.int .i64) (.pair (.sl (.sl (.int .i64))) (.unit))) c0, .dv (.int .i64) size1] [] dec69 = m69 a77 N c0 size1 := by rw [wm69]; simp only [m69, ql69a]
theorem ok69 (a77 : Y77) (h77 : FnOk Tryd.prog 77 (F77 a77)) (a : Y69) (h : ∀ c0 size1 r, a c0 size1 = some r → (∃ N, m69 a77 N c0 size1 = some r)) : FnOk Tryd.prog 69 (F69 a) := by
  intro args Of x hx
  simp only [F69] at hx
  split at hx
  · rename_i c0 size1
    obtain ⟨N, hN⟩ := h _ _ _ hx
    refine lifted (L := [(77, F77 a77)]) (rc := nrc) (fz := nfz) (fn := Tryd.f69) (by kernel_rfl) (by kernel_rfl) (by kernel_rfl) (by kernel_rfl) rfl ?_ ((k69 a77 N _ _).trans hN) ?_
    · intro p hp; simp only [List.mem_cons, List.not_mem_nil, or_false] at hp; rcases hp with rfl; exact h77
    · intro l o hd
      simp only [dec69] at hd
      split at hd
      · obtain rfl := Option.some.inj hd; exact ⟨rfl, rfl⟩
      · cases hd
  · cases hx
end Go.Proofs.YtbjfbbfglkmadaaDoor
