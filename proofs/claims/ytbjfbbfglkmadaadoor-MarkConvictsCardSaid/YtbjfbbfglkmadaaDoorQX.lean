/-
  Functions of the law, told as plain functions.
-/
import Derived.Test.YtbjfbbfglkmadaaDoorQFI
namespace Go.Proofs.YtbjfbbfglkmadaaDoor
open Go.RowKit
set_option linter.unusedVariables false
def E40 : Env := mkE TI TY [] (fun i => ([(3, [some (.int .i64), none]), (13, [some (.int .i64), none])] : List (Nat × List (Option DT))).lookup i) nfz
noncomputable def c40 : Code := bodyOf Tryd.f40
def nm40_0 : Norm := ⟨[1, 2, 3, 4, 5], [1, 2, 3], [(.fld 3 1, 2100, .sl (.int .i64))], []⟩
def nm40_1 : Norm := ⟨[1, 2, 3, 4, 5, 7], [1, 2, 3, 2100], [(.slot 6, 1006, .int .i64)], []⟩
def lv40 : Nat → Option Norm := norms [(4, nm40_0), (8, nm40_1)]
def en40 : End := ⟨[(67, .pair (.int .i64) (.pair (.sl (.sl (.int .i64))) (.unit)))], ⟨[67], [], [], []⟩⟩
def dec40 (l : List TV) (o : List (Nat × TO)) : Option Cd := match l, o with | [.dv (.pair (.int .i64) (.pair (.sl (.sl (.int .i64))) (.unit))) x0], [] => some (x0) | _, _ => none
def Sl40b (s0 : Int × Int × List (List Int) × Unit) (i5_a : Int) (o2100_a : List (List Int)) (k7_b : Int) (w6_b : List Int) : TS := ⟨slots 67 [(1, .ptr 1 0 []), (2, .ptr 2 0 []), (3, .ptr 3 0 []), (4, .dv (.int .i64) (w64 ((1 : Int) + (Int.tmod (w64 (s0.2.1)) (4 : Int))))), (5, .dv (.int .i64) i5_a), (6, .row 1006), (7, .dv (.int .i64) k7_b)], [(1006, .row (.int .i64) w6_b), (1, .row (.pair (.int .u8) (.pair (.int .u8) (.pair (.sl (.arr 4 (.int .u8))) (.unit)))) ([s0] : List (Int × Int × List (List Int) × Unit))), (2, .row (.pair (.int .i64) (.pair (.sl (.sl (.int .i64))) (.unit))) ([((0 : Int), (([] : List (List Int)), ()))] : List Cd)), (3, .rcd [.dv (.int .i64) (w64 ((2 : Int) + (Int.tmod (w64 (s0.1)) (2 : Int)))), .row 2100]), (2100, .row (.sl (.int .i64)) o2100_a)]⟩
def Sl40a (s0 : Int × Int × List (List Int) × Unit) (i5_a : Int) (o2100_a : List (List Int)) : TS := ⟨slots 67 [(1, .ptr 1 0 []), (2, .ptr 2 0 []), (3, .ptr 3 0 []), (4, .dv (.int .i64) (w64 ((1 : Int) + (Int.tmod (w64 (s0.2.1)) (4 : Int))))), (5, .dv (.int .i64) i5_a)], [(2100, .row (.sl (.int .i64)) o2100_a), (1, .row (.pair (.int .u8) (.pair (.int .u8) (.pair (.sl (.arr 4 (.int .u8))) (.unit)))) ([s0] : List (Int × Int × List (List Int) × Unit))), (2, .row (.pair (.int .i64) (.pair (.sl (.sl (.int .i64))) (.unit))) ([((0 : Int), (([] : List (List Int)), ()))] : List Cd)), (3, .rcd [.dv (.int .i64) (w64 ((2 : Int) + (Int.tmod (w64 (s0.1)) (2 : Int)))), .row 2100])]⟩
noncomputable def K40_0 (N : Nat) : Kont Cd := kont (E40) lv40 N c40 [1, 1, 1, 0, 1, 0] (fin TI en40 (resOf Tryd.f40) dec40)
noncomputable def R40_0 (N : Nat) (m : Nat) : TS → Option Cd := loopK (den (E40) lv40 N (sub c40 [1, 1, 1, 0, 1, 0, 0])) (TS.norm nm40_0) (K40_0 N) m
noncomputable def K40_1 (N : Nat) (T40_0 : TS → Option Cd) : Kont Cd := kont (E40) lv40 N (sub c40 [1, 1, 1, 0, 1, 0, 0]) [1, 0, 0, 1, 0, 1, 0] (kloop (TS.norm nm40_0) (K40_0 N) T40_0)
noncomputable def R40_1 (N : Nat) (T40_0 : TS → Option Cd) (m : Nat) : TS → Option Cd := loopK (den (E40) lv40 N (sub c40 [1, 1, 1, 0, 1, 0, 0, 1, 0, 0, 1, 0, 1, 0, 0])) (TS.norm nm40_1) (K40_1 N T40_0) m
def l40b (N : Nat) (s0 : Int × Int × List (List Int) × Unit) (i5_a : Int) (o2100_a : List (List Int)) (rec_l40a : Int → (List (List Int)) → Option Cd) : Nat → Int → (List Int) → Option Cd
  | 0, _, _ => none
  | n + 1, k7_b, w6_b => cond (decide (k7_b < (w64 ((1 : Int) + (Int.tmod (w64 (s0.2.1)) (4 : Int)))))) (chk (decide (0 ≤ i5_a ∧ i5_a < (s0.2.2.1.length : Int))) (chk (decide (0 ≤ k7_b ∧ k7_b < (4 : Int))) (chk (decide (w64 ((2 : Int) + (Int.tmod (w64 (s0.1)) (2 : Int))) ≠ (0 : Int))) (chk (small (w6_b.length + 1) 8) ((l40b N s0 i5_a o2100_a rec_l40a n (w64 (k7_b + (1 : Int))) (w6_b ++ ([Int.tmod (w64 ((s0.2.2.1.getD i5_a.toNat ([(0 : Int), (0 : Int), (0 : Int), (0 : Int)] : List Int)).getD k7_b.toNat (0 : Int))) (w64 ((2 : Int) + (Int.tmod (w64 (s0.1)) (2 : Int))))] : List Int))))))))
      (chk (small (o2100_a.length + 1) 24) ((rec_l40a (w64 (i5_a + (1 : Int))) (o2100_a ++ ([w6_b] : List (List Int))))))
theorem wl40b (N : Nat) (s0 : Int × Int × List (List Int) × Unit) (i5_a : Int) (o2100_a : List (List Int)) (T40_0 : TS → Option Cd) (m : Nat) (k7_b : Int) (w6_b : List Int) : R40_1 N T40_0 (m + 1) (Sl40b s0 i5_a o2100_a k7_b w6_b) = cond (decide (k7_b < (w64 ((1 : Int) + (Int.tmod (w64 (s0.2.1)) (4 : Int)))))) (chk (decide (0 ≤ i5_a ∧ i5_a < (s0.2.2.1.length : Int))) (chk (decide (0 ≤ k7_b ∧ k7_b < (4 : Int))) (chk (decide (w64 ((2 : Int) + (Int.tmod (w64 (s0.1)) (2 : Int))) ≠ (0 : Int))) (chk (small (w6_b.length + 1) 8) ((R40_1 N T40_0 m (Sl40b s0 i5_a o2100_a (w64 (k7_b + (1 : Int))) (w6_b ++ ([Int.tmod (w64 ((s0.2.2.1.getD i5_a.toNat ([(0 : Int), (0 : Int), (0 : Int), (0 : Int)] : List Int)).getD k7_b.toNat (0 : Int))) (w64 ((2 : Int) + (Int.tmod (w64 (s0.1)) (2 : Int))))] : List Int)))))))))
      (chk (small (o2100_a.length + 1) 24) ((T40_0 (Sl40a s0 (w64 (i5_a + (1 : Int))) (o2100_a ++ ([w6_b] : List (List Int))))))) := by kernel_rfl
theorem ql40b (N : Nat) (s0 : Int × Int × List (List Int) × Unit) (i5_a : Int) (o2100_a : List (List Int)) (T40_0 : TS → Option Cd) : ∀ (m : Nat) (k7_b : Int) (w6_b : List Int), R40_1 N T40_0 m (Sl40b s0 i5_a o2100_a k7_b w6_b) = l40b N s0 i5_a o2100_a (fun y0 y1 => T40_0 (Sl40a s0 y0 y1)) m k7_b w6_b
        | 0, _, _ => rfl
        | m + 1, k7_b, w6_b => by rw [wl40b]; simp only [l40b, ql40b N s0 i5_a o2100_a T40_0 m]
def l40a (N : Nat) (s0 : Int × Int × List (List Int) × Unit) : Nat → Int → (List (List Int)) → Option Cd
  | 0, _, _ => none
  | n + 1, i5_a, o2100_a => cond (decide (i5_a < (s0.2.2.1.length : Int))) (cond (decide (i5_a < (5 : Int))) ((l40b N s0 i5_a o2100_a (fun y0 y1 => (l40a N s0 n y0 y1)) N (0 : Int) ([] : List Int)))
      (cond ((o2100_a.length : Int) == (0 : Int)) (chk (mkOk (w64 ((1 : Int) + (Int.tmod (w64 (s0.2.1)) (4 : Int)))) (w64 ((1 : Int) + (Int.tmod (w64 (s0.2.1)) (4 : Int)))) 8) (chk (small (o2100_a.length + 1) 24) (some (w64 ((2 : Int) + (Int.tmod (w64 (s0.1)) (2 : Int))), (o2100_a ++ ([List.replicate ((w64 ((1 : Int) + (Int.tmod (w64 (s0.2.1)) (4 : Int)))).toNat) (0 : Int)] : List (List Int)), ())))))
      (some (w64 ((2 : Int) + (Int.tmod (w64 (s0.1)) (2 : Int))), (o2100_a, ())))))
      (cond ((o2100_a.length : Int) == (0 : Int)) (chk (mkOk (w64 ((1 : Int) + (Int.tmod (w64 (s0.2.1)) (4 : Int)))) (w64 ((1 : Int) + (Int.tmod (w64 (s0.2.1)) (4 : Int)))) 8) (chk (small (o2100_a.length + 1) 24) (some (w64 ((2 : Int) + (Int.tmod (w64 (s0.1)) (2 : Int))), (o2100_a ++ ([List.replicate ((w64 ((1 : Int) + (Int.tmod (w64 (s0.2.1)) (4 : Int)))).toNat) (0 : Int)] : List (List Int)), ())))))
      (some (w64 ((2 : Int) + (Int.tmod (w64 (s0.1)) (2 : Int))), (o2100_a, ()))))
theorem wl40a (N : Nat) (s0 : Int × Int × List (List Int) × Unit) (m : Nat) (i5_a : Int) (o2100_a : List (List Int)) : R40_0 N (m + 1) (Sl40a s0 i5_a o2100_a) = cond (decide (i5_a < (s0.2.2.1.length : Int))) (cond (decide (i5_a < (5 : Int))) ((R40_1 N (R40_0 N m) N (Sl40b s0 i5_a o2100_a (0 : Int) ([] : List Int))))
      (cond ((o2100_a.length : Int) == (0 : Int)) (chk (mkOk (w64 ((1 : Int) + (Int.tmod (w64 (s0.2.1)) (4 : Int)))) (w64 ((1 : Int) + (Int.tmod (w64 (s0.2.1)) (4 : Int)))) 8) (chk (small (o2100_a.length + 1) 24) (some (w64 ((2 : Int) + (Int.tmod (w64 (s0.1)) (2 : Int))), (o2100_a ++ ([List.replicate ((w64 ((1 : Int) + (Int.tmod (w64 (s0.2.1)) (4 : Int)))).toNat) (0 : Int)] : List (List Int)), ())))))
      (some (w64 ((2 : Int) + (Int.tmod (w64 (s0.1)) (2 : Int))), (o2100_a, ())))))
      (cond ((o2100_a.length : Int) == (0 : Int)) (chk (mkOk (w64 ((1 : Int) + (Int.tmod (w64 (s0.2.1)) (4 : Int)))) (w64 ((1 : Int) + (Int.tmod (w64 (s0.2.1)) (4 : Int)))) 8) (chk (small (o2100_a.length + 1) 24) (some (w64 ((2 : Int) + (Int.tmod (w64 (s0.1)) (2 : Int))), (o2100_a ++ ([List.replicate ((w64 ((1 : Int) + (Int.tmod (w64 (s0.2.1)) (4 : Int)))).toNat) (0 : Int)] : List (List Int)), ())))))
      (some (w64 ((2 : Int) + (Int.tmod (w64 (s0.1)) (2 : Int))), (o2100_a, ())))) := by kernel_rfl
theorem ql40a (N : Nat) (s0 : Int × Int × List (List Int) × Unit) : ∀ (m : Nat) (i5_a : Int) (o2100_a : List (List Int)), R40_0 N m (Sl40a s0 i5_a o2100_a) = l40a N s0 m i5_a o2100_a
        | 0, _, _ => rfl
        | m + 1, i5_a, o2100_a => by rw [wl40a]; simp only [l40a, ql40b, ql40a N s0 m]
def m40 (N : Nat) (s0 : Int × Int × List (List Int) × Unit) : Option Cd :=
      (l40a N s0 N (0 : Int) ([] : List (List Int)))
theorem wm40 (N : Nat) (s0 : Int × Int × List (List Int) × Unit) : callF (E40) lv40 N en40 c40 (resOf Tryd.f40) 66 [.dv (.pair (.int .u8) (.pair (.int .u8) (.pair (.sl (.arr 4 (.int .u8))) (.unit)))) s0] [] dec40 = (R40_0 N N (Sl40a s0 (0 : Int) ([] : List (List Int)))) := by kernel_rfl
theorem k40 (N : Nat) (s0 : Int × Int × List (List Int) × Unit) : callF (E40) lv40 N en40 c40 (resOf Tryd.f40) 66 [.dv (.pair (.int .u8) (.pair (.int .u8) (.pair (.sl (.arr 4 (.int .u8))) (.unit)))) s0] [] dec40 = m40 N s0 := by rw [wm40]; simp only [m40, ql40a]
theorem ok40 (a : Y40) (h : ∀ s0 r, a s0 = some r → (∃ N, m40 N s0 = some r)) : FnOk Tryd.prog 40 (F40 a) := by
  intro args Of x hx
  simp only [F40] at hx
  split at hx
  · rename_i s0
    obtain ⟨N, hN⟩ := h _ _ hx
    refine lifted (L := []) (rc := (fun i => ([(3, [some (.int .i64), none]), (13, [some (.int .i64), none])] : List (Nat × List (Option DT))).lookup i)) (fz := nfz) (fn := Tryd.f40) (by kernel_rfl) (by kernel_rfl) (by kernel_rfl) (by kernel_rfl) rfl ?_ ((k40 N _).trans hN) ?_
    · intro p hp; cases hp
    · intro l o hd
      simp only [dec40] at hd
      split at hd
      · obtain rfl := Option.some.inj hd; exact ⟨rfl, rfl⟩
      · cases hd
  · cases hx
def E44 : Env := mkE TI TY [] nrc nfz
noncomputable def c44 : Code := bodyOf Tryd.f44
def nm44_0 : Norm := ⟨[0, 4], [], [(.slot 3, 1003, .int .i64)], []⟩
def lv44 : Nat → Option Norm := norms [(3, nm44_0)]
def en44 : End := ⟨[(19, .sl (.int .i64))], ⟨[19], [], [], []⟩⟩
def dec44 (l : List TV) (o : List (Nat × TO)) : Option (List Int) := match l, o with | [.dv (.sl (.int .i64)) x0], [] => some (x0) | _, _ => none
def Sl44a (set0 : Int) (i4_a : Int) (out3_a : List Int) : TS := ⟨slots 19 [(0, .dv (.int .i64) set0), (3, .row 1003), (4, .dv (.int .i64) i4_a)], [(1003, .row (.int .i64) out3_a)]⟩
noncomputable def K44_0 (N : Nat) : Kont (List Int) := kont (E44) lv44 N c44 [1, 1, 0, 1, 0] (fin TI en44 (resOf Tryd.f44) dec44)
noncomputable def R44_0 (N : Nat) (m : Nat) : TS → Option (List Int) := loopK (den (E44) lv44 N (sub c44 [1, 1, 0, 1, 0, 0])) (TS.norm nm44_0) (K44_0 N) m
def l44a (N : Nat) (set0 : Int) : Nat → Int → (List Int) → Option (List Int)
  | 0, _, _ => none
  | n + 1, i4_a, out3_a => cond (decide (i4_a < (10 : Int))) (chk (decide (0 ≤ i4_a)) (cond ((bAnd .i64 (Int.fdiv set0 (2 ^ min (Int.toNat i4_a) 64)) (1 : Int)) == (1 : Int)) (chk (small (out3_a.length + 1) 8) ((l44a N set0 n (w64 (i4_a + (1 : Int))) (out3_a ++ ([i4_a] : List Int)))))
      ((l44a N set0 n (w64 (i4_a + (1 : Int))) out3_a))))
      (some out3_a)
theorem wl44a (N : Nat) (set0 : Int) (m : Nat) (i4_a : Int) (out3_a : List Int) : R44_0 N (m + 1) (Sl44a set0 i4_a out3_a) = cond (decide (i4_a < (10 : Int))) (chk (decide (0 ≤ i4_a)) (cond ((bAnd .i64 (Int.fdiv set0 (2 ^ min (Int.toNat i4_a) 64)) (1 : Int)) == (1 : Int)) (chk (small (out3_a.length + 1) 8) ((R44_0 N m (Sl44a set0 (w64 (i4_a + (1 : Int))) (out3_a ++ ([i4_a] : List Int))))))
      ((R44_0 N m (Sl44a set0 (w64 (i4_a + (1 : Int))) out3_a)))))
      (some out3_a) := by kernel_rfl
theorem ql44a (N : Nat) (set0 : Int) : ∀ (m : Nat) (i4_a : Int) (out3_a : List Int), R44_0 N m (Sl44a set0 i4_a out3_a) = l44a N set0 m i4_a out3_a
        | 0, _, _ => rfl
        | m + 1, i4_a, out3_a => by rw [wl44a]; simp only [l44a, ql44a N set0 m]
def m44 (N : Nat) (set0 : Int) : Option (List Int) :=
      (l44a N set0 N (0 : Int) ([] : List Int))
theorem wm44 (N : Nat) (set0 : Int) : callF (E44) lv44 N en44 c44 (resOf Tryd.f44) 18 [.dv (.int .i64) set0] [] dec44 = (R44_0 N N (Sl44a set0 (0 : Int) ([] : List Int))) := by kernel_rfl
theorem k44 (N : Nat) (set0 : Int) : callF (E44) lv44 N en44 c44 (resOf Tryd.f44) 18 [.dv (.int .i64) set0] [] dec44 = m44 N set0 := by rw [wm44]; simp only [m44, ql44a]
theorem ok44 (a : Y44) (h : ∀ set0 r, a set0 = some r → (∃ N, m44 N set0 = some r)) : FnOk Tryd.prog 44 (F44 a) := by
  intro args Of x hx
  simp only [F44] at hx
  split at hx
  · rename_i set0
    obtain ⟨N, hN⟩ := h _ _ hx
    refine lifted (L := []) (rc := nrc) (fz := nfz) (fn := Tryd.f44) (by kernel_rfl) (by kernel_rfl) (by kernel_rfl) (by kernel_rfl) rfl ?_ ((k44 N _).trans hN) ?_
    · intro p hp; cases hp
    · intro l o hd
      simp only [dec44] at hd
      split at hd
      · obtain rfl := Option.some.inj hd; exact ⟨rfl, rfl⟩
      · cases hd
  · cases hx
def E45 : Env := mkE TI TY [] nrc nfz
noncomputable def c45 : Code := bodyOf Tryd.f45
def nm45_0 : Norm := ⟨[1, 3, 11, 12, 13], [3], [], []⟩
def nm45_1 : Norm := ⟨[1, 3, 7, 8, 9, 11, 12, 13, 20, 21], [3], [], []⟩
def lv45 : Nat → Option Norm := norms [(2, nm45_0), (6, nm45_1)]
def en45 : End := ⟨[], ⟨[48], [], [], []⟩⟩
def dec45 (l : List TV) (o : List (Nat × TO)) : Option (Bool) := match l, o with | [.dv (.bool) x0], [] => some (x0) | _, _ => none
def Sl45b (c0 : Int × List (List Int) × Unit) (set1 : Int) (w2 : List Int) (t13_a : Int) (found9_b : Bool) (t21_b : Int) : TS := ⟨slots 48 [(1, .dv (.int .i64) set1), (3, .ptr 3 0 []), (7, .dv (.int .i64) t13_a), (8, .dv (.int .i64) (w2.getD t13_a.toNat (0 : Int))), (9, .dv (.bool) found9_b), (11, .dv (.sl (.int .i64)) w2), (12, .dv (.int .i64) (w2.length : Int)), (13, .dv (.int .i64) t13_a), (20, .dv (.int .i64) (c0.2.1.length : Int)), (21, .dv (.int .i64) t21_b)], [(3, .row (.pair (.int .i64) (.pair (.sl (.sl (.int .i64))) (.unit))) ([c0] : List Cd))]⟩
def Sl45a (c0 : Int × List (List Int) × Unit) (set1 : Int) (w2 : List Int) (t13_a : Int) : TS := ⟨slots 48 [(1, .dv (.int .i64) set1), (3, .ptr 3 0 []), (11, .dv (.sl (.int .i64)) w2), (12, .dv (.int .i64) (w2.length : Int)), (13, .dv (.int .i64) t13_a)], [(3, .row (.pair (.int .i64) (.pair (.sl (.sl (.int .i64))) (.unit))) ([c0] : List Cd))]⟩
noncomputable def K45_0 (N : Nat) : Kont (Bool) := kont (E45) lv45 N c45 [1, 0, 1, 0] (fin TI en45 (resOf Tryd.f45) dec45)
noncomputable def R45_0 (N : Nat) (m : Nat) : TS → Option (Bool) := loopK (den (E45) lv45 N (sub c45 [1, 0, 1, 0, 0])) (TS.norm nm45_0) (K45_0 N) m
noncomputable def K45_1 (N : Nat) (T45_0 : TS → Option (Bool)) : Kont (Bool) := kont (E45) lv45 N (sub c45 [1, 0, 1, 0, 0]) [1, 1, 0, 0, 1, 1, 0, 1, 0] (kloop (TS.norm nm45_0) (K45_0 N) T45_0)
noncomputable def R45_1 (N : Nat) (T45_0 : TS → Option (Bool)) (m : Nat) : TS → Option (Bool) := loopK (den (E45) lv45 N (sub c45 [1, 0, 1, 0, 0, 1, 1, 0, 0, 1, 1, 0, 1, 0, 0])) (TS.norm nm45_1) (K45_1 N T45_0) m
def l45b (N : Nat) (c0 : Int × List (List Int) × Unit) (set1 : Int) (w2 : List Int) (t13_a : Int) (rec_l45a : Int → Option (Bool)) : Nat → Bool → Int → Option (Bool)
  | 0, _, _ => none
  | n + 1, found9_b, t21_b => cond (decide (t21_b < (c0.2.1.length : Int))) (cond (found9_b) ((l45b N c0 set1 w2 t13_a rec_l45a n true (w64 (t21_b + (1 : Int)))))
      (chk (decide (0 ≤ t21_b)) (cond ((bAnd .i64 (Int.fdiv set1 (2 ^ min (Int.toNat t21_b) 64)) (1 : Int)) == (1 : Int)) (chk (decide (0 ≤ t21_b ∧ t21_b < (c0.2.1.length : Int))) (chk (decide (0 ≤ t13_a ∧ t13_a < ((c0.2.1.getD t21_b.toNat ([] : List Int)).length : Int))) ((l45b N c0 set1 w2 t13_a rec_l45a n (((c0.2.1.getD t21_b.toNat ([] : List Int)).getD t13_a.toNat (0 : Int)) == (w2.getD t13_a.toNat (0 : Int))) (w64 (t21_b + (1 : Int)))))))
      ((l45b N c0 set1 w2 t13_a rec_l45a n false (w64 (t21_b + (1 : Int))))))))
      (cond (!found9_b) (some false)
      ((rec_l45a (w64 (t13_a + (1 : Int))))))
theorem wl45b (N : Nat) (c0 : Int × List (List Int) × Unit) (set1 : Int) (w2 : List Int) (t13_a : Int) (T45_0 : TS → Option (Bool)) (m : Nat) (found9_b : Bool) (t21_b : Int) : R45_1 N T45_0 (m + 1) (Sl45b c0 set1 w2 t13_a found9_b t21_b) = cond (decide (t21_b < (c0.2.1.length : Int))) (cond (found9_b) ((R45_1 N T45_0 m (Sl45b c0 set1 w2 t13_a true (w64 (t21_b + (1 : Int))))))
      (chk (decide (0 ≤ t21_b)) (cond ((bAnd .i64 (Int.fdiv set1 (2 ^ min (Int.toNat t21_b) 64)) (1 : Int)) == (1 : Int)) (chk (decide (0 ≤ t21_b ∧ t21_b < (c0.2.1.length : Int))) (chk (decide (0 ≤ t13_a ∧ t13_a < ((c0.2.1.getD t21_b.toNat ([] : List Int)).length : Int))) ((R45_1 N T45_0 m (Sl45b c0 set1 w2 t13_a (((c0.2.1.getD t21_b.toNat ([] : List Int)).getD t13_a.toNat (0 : Int)) == (w2.getD t13_a.toNat (0 : Int))) (w64 (t21_b + (1 : Int))))))))
      ((R45_1 N T45_0 m (Sl45b c0 set1 w2 t13_a false (w64 (t21_b + (1 : Int)))))))))
      (cond (!found9_b) (some false)
      ((T45_0 (Sl45a c0 set1 w2 (w64 (t13_a + (1 : Int))))))) := by kernel_rfl
theorem ql45b (N : Nat) (c0 : Int × List (List Int) × Unit) (set1 : Int) (w2 : List Int) (t13_a : Int) (T45_0 : TS → Option (Bool)) : ∀ (m : Nat) (found9_b : Bool) (t21_b : Int), R45_1 N T45_0 m (Sl45b c0 set1 w2 t13_a found9_b t21_b) = l45b N c0 set1 w2 t13_a (fun y0 => T45_0 (Sl45a c0 set1 w2 y0)) m found9_b t21_b
        | 0, _, _ => rfl
        | m + 1, found9_b, t21_b => by rw [wl45b]; simp only [l45b, ql45b N c0 set1 w2 t13_a T45_0 m]
def l45a (N : Nat) (c0 : Int × List (List Int) × Unit) (set1 : Int) (w2 : List Int) : Nat → Int → Option (Bool)
  | 0, _ => none
  | n + 1, t13_a => cond (decide (t13_a < (w2.length : Int))) (chk (decide (0 ≤ t13_a ∧ t13_a < (w2.length : Int))) ((l45b N c0 set1 w2 t13_a (fun y0 => (l45a N c0 set1 w2 n y0)) N false (0 : Int))))
      (some true)
theorem wl45a (N : Nat) (c0 : Int × List (List Int) × Unit) (set1 : Int) (w2 : List Int) (m : Nat) (t13_a : Int) : R45_0 N (m + 1) (Sl45a c0 set1 w2 t13_a) = cond (decide (t13_a < (w2.length : Int))) (chk (decide (0 ≤ t13_a ∧ t13_a < (w2.length : Int))) ((R45_1 N (R45_0 N m) N (Sl45b c0 set1 w2 t13_a false (0 : Int)))))
      (some true) := by kernel_rfl
theorem ql45a (N : Nat) (c0 : Int × List (List Int) × Unit) (set1 : Int) (w2 : List Int) : ∀ (m : Nat) (t13_a : Int), R45_0 N m (Sl45a c0 set1 w2 t13_a) = l45a N c0 set1 w2 m t13_a
        | 0, _ => rfl
        | m + 1, t13_a => by rw [wl45a]; simp only [l45a, ql45b, ql45a N c0 set1 w2 m]
def m45 (N : Nat) (c0 : Int × List (List Int) × Unit) (set1 : Int) (w2 : List Int) : Option (Bool) :=
      (l45a N c0 set1 w2 N (0 : Int))
theorem wm45 (N : Nat) (c0 : Int × List (List Int) × Unit) (set1 : Int) (w2 : List Int) : callF (E45) lv45 N en45 c45 (resOf Tryd.f45) 45 [.dv (.pair (.int .i64) (.pair (.sl (.sl (.int .i64))) (.unit))) c0, .dv (.int .i64) set1, .dv (.sl (.int .i64)) w2] [] dec45 = (R45_0 N N (Sl45a c0 set1 w2 (0 : Int))) := by kernel_rfl
theorem k45 (N : Nat) (c0 : Int × List (List Int) × Unit) (set1 : Int) (w2 : List Int) : callF (E45) lv45 N en45 c45 (resOf Tryd.f45) 45 [.dv (.pair (.int .i64) (.pair (.sl (.sl (.int .i64))) (.unit))) c0, .dv (.int .i64) set1, .dv (.sl (.int .i64)) w2] [] dec45 = m45 N c0 set1 w2 := by rw [wm45]; simp only [m45, ql45a]
theorem ok45 (a : Y45) (h : ∀ c0 set1 w2 r, a c0 set1 w2 = some r → (∃ N, m45 N c0 set1 w2 = some r)) : FnOk Tryd.prog 45 (F45 a) := by
  intro args Of x hx
  simp only [F45] at hx
  split at hx
  · rename_i c0 set1 w2
    obtain ⟨N, hN⟩ := h _ _ _ _ hx
    refine lifted (L := []) (rc := nrc) (fz := nfz) (fn := Tryd.f45) (by kernel_rfl) (by kernel_rfl) (by kernel_rfl) (by kernel_rfl) rfl ?_ ((k45 N _ _ _).trans hN) ?_
    · intro p hp; cases hp
    · intro l o hd
      simp only [dec45] at hd
      split at hd
      · obtain rfl := Option.some.inj hd; exact ⟨rfl, rfl⟩
      · cases hd
  · cases hx
end Go.Proofs.YtbjfbbfglkmadaaDoor
