/-
  Functions of the law, told as plain functions.
-/
import Derived.Test.YtbjfbbfglkmadaaDoorQFI
namespace Go.Proofs.YtbjfbbfglkmadaaDoor
open Go.RowKit
set_option linter.unusedVariables false
def E40 : Env := mkE TI TY [] (fun i => ([(3, [some (.int .i64), none]), (13, [some (.int .i64), none])] : List (Nat × List (Option DT))).lookup i) nfz
noncomputable def c40 : Code := bodyOf Tryd.f40
def nm40_0 : Norm := ⟨[1, 2, 3, 4, 5], [1, 2, 3], [(.fld 3 1, 2100, .sl (.int .i64))], []⟩
def nm40_1 : Norm := ⟨[1, 2, 3, 4, 5, 7], [1, 2, 3, 2100], [(.slot 6, 1006, .int .i64)], []⟩
def lv40 : Nat → Option Norm := norms [(4, nm40_0), (8, nm40_1)]
def en40 : End := ⟨[(67, .pair (.int .i64) (.pair (.sl (.sl (.int .i64))) (.unit)))], ⟨[67], [], [], []⟩⟩
def dec40 (l : List TV) (o : List (Nat × TO)) : Option Cd := match l, o with | [.dv (.pair (.int .i64) (.pair (.sl (.sl (.int .i64))) (.unit))) x0], [] => some (x0) | _, _ => none
def Sl40b (s0 : Int × Int × List (List Int) × Unit) (i5_a : Int) (o2100_a : List (List Int)) (k7_b : Int) (w6_b : List Int) : TS := ⟨slots 67 [(1, .ptr 1 0 []), (2, .ptr 2 0 []), (3, .ptr 3 0 []), (4, .dv (.int .i64) (w64 ((1 : Int) + (Int.tmod (w64 (s0.2.1)) (4 : Int))))), (5, .dv (.int .i64) i5_a), (6, .row 1006), (7, .dv (.int .i64) k7_b)], [(1006, .row (.int .i64) w6_b), (1, .row (.pair (.int .u8) (.pair (.int .u8) (.pair (.sl (.arr 4 (.int .u8))) (.unit)))) ([s0] : List (Int × Int × List (List Int) × Unit))), (2, .row (.pair (.int .i64) (.pair (.sl (.sl (.int .i64))) (.unit))) ([((0 : Int), (([] : List (List Int)), ()))] : List Cd)), (3, .rcd [.dv (.int .i64) (w64 ((2 : Int) + (Int.tmod (w64 (s0.1)) (2 : Int)))), .row 2100]), (2100, .row (.sl (.int .i64)) o2100_a)]⟩
def Sl40a (s0 : Int × Int × List (List Int) × Unit) (i5_a : Int) (o2100_a : List (List Int)) : TS := ⟨slots 67 [(1, .ptr 1 0 []), (2, .ptr 2 0 []), (3, .ptr 3 0 []), (4, .dv (.int .i64) (w64 ((1 : Int) + (Int.tmod (w64 (s0.2.1)) (4 : Int))))), (5, .dv (.int .i64) i5_a)], [(2100, .row (.sl (.int .i64)) o2100_a), (1, .row (.pair (.int .u8) (.pair (.int .u8) (.pair (.sl (.arr 4 (.int .u8))) (.unit)))) ([s0] : List (Int × Int × List (List Int) × Unit))), (2, .row (.pair (.int .i64) (.pair (.sl (.sl (.int .i64))) (.unit))) ([((0 : Int), (([] : List (List Int)), ()))] : List Cd)), (3, .rcd [.dv (.int .i64) (w64 ((2 : Int) + (Int.tmod (w64 (s0.1)) (2 : Int)))), .row 2100])]⟩
noncomputable def K40_0 (N : Nat) : Kont Cd := kont (E40) lv40 N c40 [1, 1, 1, 0, 1, 0] (fin TI en40 (resOf Tryd.f40) dec40)
noncomputable def R40_0 (N : Nat) (m : Nat) : TS → Option Cd := loopK (den (E40) lv40 N (sub c40 [1, 1, 1, 0, 1, 0, 0])) (TS.norm nm40_0) (K40_0 N) m
noncomputable def K40_1 (N : Nat) (T40_0 : TS → Option Cd) : Kont Cd := kont (E40) lv40 N (sub c40 [1, 1, 1, 0, 1, 0, 0]) [1, 0, 0, 1, 0, 1, 0] (kloop (TS.norm nm40_0) (K40_0 N) T40_0)
noncomputable def R40_1 (N : Nat) (T40_0 : TS → Option Cd) (m : Nat) : TS → Option Cd := loopK (den (E40) lv40 N (sub c40 [1, 1, 1, 0, 1, 0, 0, 1, 0, 0, 1, 0, 1, 0, 0])) (TS.norm nm40_1) (K40_1 N T40_0) m
def l40b (N : Nat) (s0 : Int × Int × List (List Int) × Unit) (i5_a : Int) (o2100_a : List (List Int)) (rec_l40a : Int → (List (List Int)) → Option Cd) : Nat → Int → (List Int) → Option Cd
  | 0, _, _ => none
  | n + 1, k7_b, w6_b => cond (decide (k7_b < (w64 ((1 : Int) + (Int.tmod (w64 (s0.2.1)) (4 : Int)))))) (chk (decide (0 ≤ i5_a ∧ i5_a < (s0.2.2.1.length : Int))) (chk (decide (0 ≤ k7_b ∧ k7_b < (4 : Int))) (chk (decide (w64 ((2 : Int) + (Int.tmod (w64 (s0.1)) (2 : Int))) ≠ (0 : Int))) (chk (small (w6_b.length + 1) 8) ((l40b N s0 i5_a o2100_a rec_l40a n (w64 (k7_b + (1 : Int))) (w6_b ++ ([Int.tmod (w64 ((s0.2.2.1.getD i5_a.toNat ([(0 : Int), (0 : Int), (0 : Int), (0 : Int)] : List Int)).getD k7_b.toNat (0 : Int))) (w64 ((2 : Int) + (Int.tmod (w64 (s0.1)) (2 : Int))))] : List Int))))))))
      (chk (small (o2100_a.length + 1) 24) ((rec_l40a (w64 (i5_a + (1 : Int))) (o2100_a ++ ([w6_b] : List (List Int))))))
theorem wl40b (N : Nat) (s0 : Int × Int × List (List Int) × Unit) (i5_a : Int) (o2100_a : List (List Int)) (T40_0 : TS → Option Cd) (m : Nat) (k7_b : Int) (w6_b : List Int) : R40_1 N T40_0 (m + 1) (Sl40b s0 i5_a o2100_a k7_b w6_b) = cond (decide (k7_b < (w64 ((1 : Int) + (Int.tmod (w64 (s0.2.1)) (4 : Int)))))) (chk (decide (0 ≤ i5_a ∧ i5_a < (s0.2.2.1.length : Int))) (chk (decide (0 ≤ k7_b ∧ k7_b < (4 : Int))) (chk (decide (w64 ((2 : Int) + (Int.tmod (w64 (s0.1)) (2 : Int))) ≠ (0 : Int))) (chk (small (w6_b.length + 1) 8) ((R40_1 N T40_0 m (Sl40b s0 i5_a o2100_a (w64 (k7_b + (1 : Int))) (w6_b ++ ([Int.tmod (w64 ((s0.2.2.1.getD i5_a.toNat ([(0 : Int), (0 : Int), (0 : Int), (0 : Int)] : List Int)).getD k7_b.toNat (0 : Int))) (w64 ((2 : Int) + (Int.tmod (w64 (s0.1)) (2 : Int))))] : List Int)))))))))
      (chk (small (o2100_a.length + 1) 24) ((T40_0 (Sl40a s0 (w64 (i5_a + (1 : Int))) (o2100_a ++ ([w6_b] : List (List Int))))))) := by kernel_rfl
theorem ql40b (N : Nat) (s0 : Int × Int × List (List Int) × Unit) (i5_a : Int) (o2100_a : List (List Int)) (T40_0 : TS → Option Cd) : ∀ (m : Nat) (k7_b : Int) (w6_b : List Int), R40_1 N T40_0 m (Sl40b s0 i5_a o2100_a k7_b w6_b) = l40b N s0 i5_a o2100_a (fun y0 y1 => T40_0 (Sl40a s0 y0 y1)) m k7_b w6_b
        | 0, _, _ => rfl
        | m + 1, k7_b, w6_b => by rw [wl40b]; simp only [l40b, ql40b N s0 i5_a o2100_a T40_0 m]
def l40a (N : Nat) (s0 : Int × Int × List (List Int) × Unit) : Nat → Int → (List (List Int)) → Option Cd
  | 0, _, _ => none
  | n + 1, i5_a, o2100_a => cond (decide (i5_a < (s0.2.2.1.length : Int))) (cond (decide (i5_a < (5 : Int))) ((l40b N s0 i5_a o2100_a (fun y0 y1 => (l40a N s0 n y0 y1)) N (0 : Int) ([] : List Int)))
      (cond ((o2100_a.length : Int) == (0 : Int)) (chk (mkOk (w64 ((1 : Int) + (Int.tmod (w64 (s0.2.1)) (4 : Int)))) (w64 ((1 : Int) + (Int.tmod (w64 (s0.2.1)) (4 : Int)))) 8) (chk (small (o2100_a.length + 1) 24) (some (w64 ((2 : Int) + (Int.tmod (w64 (s0.1)) (2 : Int))), (o2100_a ++ ([List.replicate ((w64 ((1 : Int) + (Int.tmod (w64 (s0.2.1)) (4 : Int)))).toNat) (0 : Int)] : List (List Int)), ())))))
      (some (w64 ((2 : Int) + (Int.tmod (w64 (s0.1)) (2 : Int))), (o2100_a, ())))))
      (cond ((o2100_a.length : Int) == (0 : Int)) (chk (mkOk (w64 ((1 : Int) + (Int.tmod (w64 (s0.2.1)) (4 : Int)))) (w64 ((1 : Int) + (Int.tmod (w64 (s0.2.1)) (4 : Int)))) 8) (chk (small (o2100_a.length + 1) 24) (some (w64 ((2 : Int) + (Int.tmod (w64 (s0.1)) (2 : Int))), (o2100_a ++ ([List.replicate ((w64 ((1 : Int) + (Int.tmod (w64 (s0.2.1)) (4 : Int)))).toNat) (0 : Int)] : List (List Int)), ())))))
      (some (w64 ((2 : Int) + (Int.tmod (w64 (s0.1)) (2 : Int))), (o2100_a, ()))))
theorem wl40a (N : Nat) (s0 : Int × Int × List (List Int) × Unit) (m : Nat) (i5_a : Int) (o2100_a : List (List Int)) : R40_0 N (m + 1) (Sl40a s0 i5_a o2100_a) = cond (decide (i5_a < (s0.2.2.1.length : Int))) (cond (decide (i5_a < (5 : Int))) ((R40_1 N (R40_0 N m) N (Sl40b s0 i5_a o2100_a (0 : Int) ([] : List Int))))
      (cond ((o2100_a.length : Int) == (0 : Int)) (chk (mkOk (w64 ((1 : Int) + (Int.tmod (w64 (s0.2.1)) (4 : Int)))) (w64 ((1 : Int) + (Int.tmod (w64 (s0.2.1)) (4 : Int)))) 8) (chk (small (o2100_a.length + 1) 24) (some (w64 ((2 : Int) + (Int.tmod (w64 (s0.1)) (2 : Int))), (o2100_a ++ ([List.replicate ((w64 ((1 : Int) + (Int.tmod (w64 (s0.2.1)) (4 : Int)))).toNat) (0 : Int)] : List (List Int)), ())))))
      (some (w64 ((2 : Int) + (Int.tmod (w64 (s0.1)) (2 : Int))), (o2100_a, ())))))
      (cond ((o2100_a.length : Int) == (0 : Int)) (chk (mkOk (w64 ((1 : Int) + (Int.tmod (w64 (s0.2.1)) (4 : Int)))) (w64 ((1 : Int) + (Int.tmod (w64 (s0.2.1)) (4 : Int)))) 8) (chk (small (o2100_a.length + 1) 24) (some (w64 ((2 : Int) + (Int.tmod (w64 (s0.1)) (2 : Int))), (o2100_a ++ ([List.replicate ((w64 ((1 : Int) + (Int.tmod (w64 (s0.2.1)) (4 : Int)))).toNat) (0 : Int)] : List (List Int)), ())))))
      (some (w64 ((2 : Int) + (Int.tmod (w64 (s0.1)) (2 : Int))), (o2100_a, ())))) := by kernel_rfl
theorem ql40a (N : Nat) (s0 : Int × Int × List (List Int) × Unit) : ∀ (m : Nat) (i5_a : Int) (o2100_a : List (List Int)), R40_0 N m (Sl40a s0 i5_a o2100_a) = l40a N s0 m i5_a o2100_a
        | 0, _, _ => rfl
        | m + 1, i5_a, o2100_a => by rw [wl40a]; simp only [l40a, ql40b, ql40a N s0 m]
def m40 (N : Nat) (s0 : Int × Int × List (List Int) × Unit) : Option Cd :=
      (l40a N s0 N (0 : Int) ([] : List (List Int)))
theorem wm40 (N : Nat) (s0 : Int × Int × List (List Int) × Unit) : callF (E40) lv40 N en40 c40 (resOf Tryd.f40) 66 [.dv (.pair (.int .u8) (.pair (.int .u8) (.pair (.sl (.arr 4 (.int .u8))) (.unit)))) s0] [] dec40 = (R40_0 N N (Sl40a s0 (0 : Int) ([] : List (List Int)))) := by kernel_rfl
theorem k40 (N : Nat) (s0 : Int × Int × List (List Int) × Unit) : callF (E40) lv40 N en40 c40 (resOf Tryd.f40) 66 [.dv (.pair (.int .u8) (.pair (.int .u8) (.pair (.sl (.arr 4 (.int .u8))) (.unit)))) s0] [] dec40 = m40 N s0 := by rw [wm40]; simp only [m40, ql40a]
theorem ok40 (a : Y40) (h : ∀ s0 r, a s0 = some r → (∃ N, m40 N s0 = some r)) : FnOk Tryd.prog 40 (F40 a) := by
  intro args Of x hx
  simp only [F40] at hx
  split at hx
  · rename_i s0
    obtain ⟨N, hN⟩ := h _ _ hx
    refine lifted (L := []) (rc := (fun i => ([(3, [some (.int .i64), none]), (13, [some (.int .i64), none])] : List (Nat × List (Option DT))).lookup i)) (fz := nfz) (fn := Tryd.f40) (by kernel_rfl) (by kernel_rfl) (by kernel_rfl) (by kernel_rfl) rfl ?_ ((k40 N _).trans hN) ?_
    · intro p hp; cases hp
    · intro l o hd
      simp only [dec40] at hd
      split at hd
      · obtain rfl := Option.some.inj hd; exact ⟨rfl, rfl⟩
      · cases hd
  · cases hx
end Go.Proofs.YtbjfbbfglkmadaaDoor
