/-
  The functions that the law reaches, told as plain functions.
-/
import Derived.Test.YtaioadjcdjmkdaaWM0
namespace Go.Proofs.Ytaioadjcdjmkdaa
open Go.RowKit
set_option linter.unusedVariables false
def E41 : Env := mkE TI TY [] (fun i => ([(3, [some (.int .i64), none]), (13, [some (.int .i64), none])] : List (Nat × List (Option DT))).lookup i) nfz
noncomputable def c41 : Code := bodyOf Try.f41
def nm41_0 : Norm := ⟨[1, 2, 3, 4], [1, 2, 3], [(.fld 3 1, 2100, .sl (.int .i64))], []⟩
def nm41_1 : Norm := ⟨[1, 2, 3, 4, 6], [1, 2, 3, 2100], [(.slot 5, 1005, .int .i64)], []⟩
def lv41 : Nat → Option Norm := norms [(3, nm41_0), (7, nm41_1)]
def en41 : End := ⟨[(64, .pair (.int .i64) (.pair (.sl (.sl (.int .i64))) (.unit)))], ⟨[64], [], [], []⟩⟩
def dec41 (l : List TV) (o : List (Nat × TO)) : Option (Int × List (List Int) × Unit) := match l, o with | [.dv (.pair (.int .i64) (.pair (.sl (.sl (.int .i64))) (.unit))) x0], [] => some (x0) | _, _ => none
noncomputable def K41_0 (N : Nat) : Kont (Int × List (List Int) × Unit) := kont (E41) lv41 N c41 [1, 1, 0, 1, 0] (fin TI en41 (resOf Try.f41) dec41)
noncomputable def R41_0 (N : Nat) (m : Nat) : TS → Option (Int × List (List Int) × Unit) := loopK (den (E41) lv41 N (sub c41 [1, 1, 0, 1, 0, 0])) (TS.norm nm41_0) (K41_0 N) m
noncomputable def K41_1 (N : Nat) (T41_0 : TS → Option (Int × List (List Int) × Unit)) : Kont (Int × List (List Int) × Unit) := kont (E41) lv41 N (sub c41 [1, 1, 0, 1, 0, 0]) [1, 0, 0, 1, 0, 1, 0] (kloop (TS.norm nm41_0) (K41_0 N) T41_0)
noncomputable def R41_1 (N : Nat) (T41_0 : TS → Option (Int × List (List Int) × Unit)) (m : Nat) : TS → Option (Int × List (List Int) × Unit) := loopK (den (E41) lv41 N (sub c41 [1, 1, 0, 1, 0, 0, 1, 0, 0, 1, 0, 1, 0, 0])) (TS.norm nm41_1) (K41_1 N T41_0) m
def Sl41b (e0 : Int × List (List Int) × Unit) (i4_a : Int) (o2100_a : List (List Int)) (c6_b : Int) (l5_b : List Int) : TS := ⟨slots 64 [(1, .ptr 1 0 []), (2, .ptr 2 0 []), (3, .ptr 3 0 []), (4, .dv (.int .i64) i4_a), (5, .row 1005), (6, .dv (.int .i64) c6_b)], [(1005, .row (.int .i64) l5_b), (1, .row (.pair (.int .u8) (.pair (.sl (.arr 5 (.int .u8))) (.unit))) ([e0] : List (Int × List (List Int) × Unit))), (2, .row (.pair (.int .i64) (.pair (.sl (.sl (.int .i64))) (.unit))) ([((0 : Int), (([] : List (List Int)), ()))] : List (Int × List (List Int) × Unit))), (3, .rcd [.dv (.int .i64) (w64 ((2 : Int) + (Int.tmod (w64 (e0.1)) (4 : Int)))), .row 2100]), (2100, .row (.sl (.int .i64)) o2100_a)]⟩
def Sl41a (e0 : Int × List (List Int) × Unit) (i4_a : Int) (o2100_a : List (List Int)) : TS := ⟨slots 64 [(1, .ptr 1 0 []), (2, .ptr 2 0 []), (3, .ptr 3 0 []), (4, .dv (.int .i64) i4_a)], [(2100, .row (.sl (.int .i64)) o2100_a), (1, .row (.pair (.int .u8) (.pair (.sl (.arr 5 (.int .u8))) (.unit))) ([e0] : List (Int × List (List Int) × Unit))), (2, .row (.pair (.int .i64) (.pair (.sl (.sl (.int .i64))) (.unit))) ([((0 : Int), (([] : List (List Int)), ()))] : List (Int × List (List Int) × Unit))), (3, .rcd [.dv (.int .i64) (w64 ((2 : Int) + (Int.tmod (w64 (e0.1)) (4 : Int)))), .row 2100])]⟩
def l41b (N : Nat) (e0 : Int × List (List Int) × Unit) (i4_a : Int) (o2100_a : List (List Int)) (rec_l41a : Int → (List (List Int)) → Option (Int × List (List Int) × Unit)) : Nat → Int → (List Int) → Option (Int × List (List Int) × Unit)
  | 0, _, _ => none
  | n + 1, c6_b, l5_b => cond (decide (c6_b < (w64 ((2 : Int) + (Int.tmod (w64 (e0.1)) (4 : Int)))))) (chk (decide (0 ≤ i4_a ∧ i4_a < (e0.2.1.length : Int))) (chk (decide (0 ≤ c6_b ∧ c6_b < (5 : Int))) (chk (decide (w64 ((2 : Int) + (Int.tmod (w64 (e0.1)) (4 : Int))) ≠ (0 : Int))) (chk (small (l5_b.length + 1) 8) ((l41b N e0 i4_a o2100_a rec_l41a n (w64 (c6_b + (1 : Int))) (l5_b ++ ([Int.tmod (w64 ((e0.2.1.getD i4_a.toNat ([(0 : Int), (0 : Int), (0 : Int), (0 : Int), (0 : Int)] : List Int)).getD c6_b.toNat (0 : Int))) (w64 ((2 : Int) + (Int.tmod (w64 (e0.1)) (4 : Int))))] : List Int))))))))
      (chk (small (o2100_a.length + 1) 24) ((rec_l41a (w64 (i4_a + (1 : Int))) (o2100_a ++ ([l5_b] : List (List Int))))))
theorem wl41b (N : Nat) (e0 : Int × List (List Int) × Unit) (i4_a : Int) (o2100_a : List (List Int)) (T41_0 : TS → Option (Int × List (List Int) × Unit)) (m : Nat) (c6_b : Int) (l5_b : List Int) : R41_1 N T41_0 (m + 1) (Sl41b e0 i4_a o2100_a c6_b l5_b) = cond (decide (c6_b < (w64 ((2 : Int) + (Int.tmod (w64 (e0.1)) (4 : Int)))))) (chk (decide (0 ≤ i4_a ∧ i4_a < (e0.2.1.length : Int))) (chk (decide (0 ≤ c6_b ∧ c6_b < (5 : Int))) (chk (decide (w64 ((2 : Int) + (Int.tmod (w64 (e0.1)) (4 : Int))) ≠ (0 : Int))) (chk (small (l5_b.length + 1) 8) ((R41_1 N T41_0 m (Sl41b e0 i4_a o2100_a (w64 (c6_b + (1 : Int))) (l5_b ++ ([Int.tmod (w64 ((e0.2.1.getD i4_a.toNat ([(0 : Int), (0 : Int), (0 : Int), (0 : Int), (0 : Int)] : List Int)).getD c6_b.toNat (0 : Int))) (w64 ((2 : Int) + (Int.tmod (w64 (e0.1)) (4 : Int))))] : List Int)))))))))
      (chk (small (o2100_a.length + 1) 24) ((T41_0 (Sl41a e0 (w64 (i4_a + (1 : Int))) (o2100_a ++ ([l5_b] : List (List Int))))))) := by kernel_rfl
theorem ql41b (N : Nat) (e0 : Int × List (List Int) × Unit) (i4_a : Int) (o2100_a : List (List Int)) (T41_0 : TS → Option (Int × List (List Int) × Unit)) : ∀ (m : Nat) (c6_b : Int) (l5_b : List Int), R41_1 N T41_0 m (Sl41b e0 i4_a o2100_a c6_b l5_b) = l41b N e0 i4_a o2100_a (fun y0 y1 => T41_0 (Sl41a e0 y0 y1)) m c6_b l5_b
        | 0, _, _ => rfl
        | m + 1, c6_b, l5_b => by rw [wl41b]; simp only [l41b, ql41b N e0 i4_a o2100_a T41_0 m]
def l41a (N : Nat) (e0 : Int × List (List Int) × Unit) : Nat → Int → (List (List Int)) → Option (Int × List (List Int) × Unit)
  | 0, _, _ => none
  | n + 1, i4_a, o2100_a => cond (decide (i4_a < (e0.2.1.length : Int))) (cond (decide (i4_a < (3 : Int))) ((l41b N e0 i4_a o2100_a (fun y0 y1 => (l41a N e0 n y0 y1)) N (0 : Int) ([] : List Int)))
      (cond ((o2100_a.length : Int) == (0 : Int)) (chk (mkOk (w64 ((2 : Int) + (Int.tmod (w64 (e0.1)) (4 : Int)))) (w64 ((2 : Int) + (Int.tmod (w64 (e0.1)) (4 : Int)))) 8) (chk (decide (0 ≤ (0 : Int) ∧ (0 : Int) < ((List.replicate ((w64 ((2 : Int) + (Int.tmod (w64 (e0.1)) (4 : Int)))).toNat) (0 : Int)).length : Int))) (some (w64 ((2 : Int) + (Int.tmod (w64 (e0.1)) (4 : Int))), (([(List.replicate ((w64 ((2 : Int) + (Int.tmod (w64 (e0.1)) (4 : Int)))).toNat) (0 : Int)).set 0 (1 : Int)] : List (List Int)), ())))))
      (some (w64 ((2 : Int) + (Int.tmod (w64 (e0.1)) (4 : Int))), (o2100_a, ())))))
      (cond ((o2100_a.length : Int) == (0 : Int)) (chk (mkOk (w64 ((2 : Int) + (Int.tmod (w64 (e0.1)) (4 : Int)))) (w64 ((2 : Int) + (Int.tmod (w64 (e0.1)) (4 : Int)))) 8) (chk (decide (0 ≤ (0 : Int) ∧ (0 : Int) < ((List.replicate ((w64 ((2 : Int) + (Int.tmod (w64 (e0.1)) (4 : Int)))).toNat) (0 : Int)).length : Int))) (some (w64 ((2 : Int) + (Int.tmod (w64 (e0.1)) (4 : Int))), (([(List.replicate ((w64 ((2 : Int) + (Int.tmod (w64 (e0.1)) (4 : Int)))).toNat) (0 : Int)).set 0 (1 : Int)] : List (List Int)), ())))))
      (some (w64 ((2 : Int) + (Int.tmod (w64 (e0.1)) (4 : Int))), (o2100_a, ()))))
theorem wl41a (N : Nat) (e0 : Int × List (List Int) × Unit) (m : Nat) (i4_a : Int) (o2100_a : List (List Int)) : R41_0 N (m + 1) (Sl41a e0 i4_a o2100_a) = cond (decide (i4_a < (e0.2.1.length : Int))) (cond (decide (i4_a < (3 : Int))) ((R41_1 N (R41_0 N m) N (Sl41b e0 i4_a o2100_a (0 : Int) ([] : List Int))))
      (cond ((o2100_a.length : Int) == (0 : Int)) (chk (mkOk (w64 ((2 : Int) + (Int.tmod (w64 (e0.1)) (4 : Int)))) (w64 ((2 : Int) + (Int.tmod (w64 (e0.1)) (4 : Int)))) 8) (chk (decide (0 ≤ (0 : Int) ∧ (0 : Int) < ((List.replicate ((w64 ((2 : Int) + (Int.tmod (w64 (e0.1)) (4 : Int)))).toNat) (0 : Int)).length : Int))) (some (w64 ((2 : Int) + (Int.tmod (w64 (e0.1)) (4 : Int))), (([(List.replicate ((w64 ((2 : Int) + (Int.tmod (w64 (e0.1)) (4 : Int)))).toNat) (0 : Int)).set 0 (1 : Int)] : List (List Int)), ())))))
      (some (w64 ((2 : Int) + (Int.tmod (w64 (e0.1)) (4 : Int))), (o2100_a, ())))))
      (cond ((o2100_a.length : Int) == (0 : Int)) (chk (mkOk (w64 ((2 : Int) + (Int.tmod (w64 (e0.1)) (4 : Int)))) (w64 ((2 : Int) + (Int.tmod (w64 (e0.1)) (4 : Int)))) 8) (chk (decide (0 ≤ (0 : Int) ∧ (0 : Int) < ((List.replicate ((w64 ((2 : Int) + (Int.tmod (w64 (e0.1)) (4 : Int)))).toNat) (0 : Int)).length : Int))) (some (w64 ((2 : Int) + (Int.tmod (w64 (e0.1)) (4 : Int))), (([(List.replicate ((w64 ((2 : Int) + (Int.tmod (w64 (e0.1)) (4 : Int)))).toNat) (0 : Int)).set 0 (1 : Int)] : List (List Int)), ())))))
      (some (w64 ((2 : Int) + (Int.tmod (w64 (e0.1)) (4 : Int))), (o2100_a, ())))) := by kernel_rfl
theorem ql41a (N : Nat) (e0 : Int × List (List Int) × Unit) : ∀ (m : Nat) (i4_a : Int) (o2100_a : List (List Int)), R41_0 N m (Sl41a e0 i4_a o2100_a) = l41a N e0 m i4_a o2100_a
        | 0, _, _ => rfl
        | m + 1, i4_a, o2100_a => by rw [wl41a]; simp only [l41a, ql41b, ql41a N e0 m]
def m41 (N : Nat) (e0 : Int × List (List Int) × Unit) : Option (Int × List (List Int) × Unit) :=
      (l41a N e0 N (0 : Int) ([] : List (List Int)))
theorem wm41 (N : Nat) (e0 : Int × List (List Int) × Unit) : callF (E41) lv41 N en41 c41 (resOf Try.f41) 63 [.dv (.pair (.int .u8) (.pair (.sl (.arr 5 (.int .u8))) (.unit))) e0] [] dec41 = (R41_0 N N (Sl41a e0 (0 : Int) ([] : List (List Int)))) := by kernel_rfl
theorem k41 (N : Nat) (e0 : Int × List (List Int) × Unit) : callF (E41) lv41 N en41 c41 (resOf Try.f41) 63 [.dv (.pair (.int .u8) (.pair (.sl (.arr 5 (.int .u8))) (.unit))) e0] [] dec41 = m41 N e0 := by rw [wm41]; simp only [m41, ql41a]
theorem ok41 (a : (Int × List (List Int) × Unit) → Option (Int × List (List Int) × Unit)) (h : ∀ e0 r, a e0 = some r → (∃ N, m41 N e0 = some r)) : FnOk Try.prog 41 (F41 a) := by
  intro args Of x hx
  simp only [F41] at hx
  split at hx
  · rename_i e0
    obtain ⟨N, hN⟩ := h _ _ hx
    refine lifted (L := []) (rc := (fun i => ([(3, [some (.int .i64), none]), (13, [some (.int .i64), none])] : List (Nat × List (Option DT))).lookup i)) (fz := nfz) (fn := Try.f41) (by kernel_rfl) (by kernel_rfl) (by kernel_rfl) (by kernel_rfl) rfl ?_ ((k41 N _).trans hN) ?_
    · intro p hp; cases hp
    · intro l o hd
      simp only [dec41] at hd
      split at hd
      · obtain rfl := Option.some.inj hd; exact ⟨rfl, rfl⟩
      · cases hd
  · cases hx
def E42 : Env := mkE TI TY [] nrc nfz
noncomputable def c42 : Code := bodyOf Try.f42
def nm42_0 : Norm := ⟨[1, 2, 3, 8], [3], [(.slot 7, 1007, .int .i64)], []⟩
def lv42 : Nat → Option Norm := norms [(3, nm42_0)]
def en42 : End := ⟨[(33, .sl (.int .i64))], ⟨[33], [], [], []⟩⟩
def dec42 (l : List TV) (o : List (Nat × TO)) : Option (List Int) := match l, o with | [.dv (.sl (.int .i64)) x0], [] => some (x0) | _, _ => none
noncomputable def K42_0 (N : Nat) : Kont (List Int) := kont (E42) lv42 N c42 [1, 1, 0, 1, 0] (fin TI en42 (resOf Try.f42) dec42)
noncomputable def R42_0 (N : Nat) (m : Nat) : TS → Option (List Int) := loopK (den (E42) lv42 N (sub c42 [1, 1, 0, 1, 0, 0])) (TS.norm nm42_0) (K42_0 N) m
def Sl42a (p0 : Int × List (List Int) × Unit) (by1 : List Int) (most2 : Int) (i8_a : Int) (l7_a : List Int) : TS := ⟨slots 33 [(1, .dv (.sl (.int .u8)) by1), (2, .dv (.int .i64) most2), (3, .ptr 3 0 []), (7, .row 1007), (8, .dv (.int .i64) i8_a)], [(1007, .row (.int .i64) l7_a), (3, .row (.pair (.int .i64) (.pair (.sl (.sl (.int .i64))) (.unit))) ([p0] : List (Int × List (List Int) × Unit)))]⟩
def l42a (N : Nat) (p0 : Int × List (List Int) × Unit) (by1 : List Int) (most2 : Int) : Nat → Int → (List Int) → Option (List Int)
  | 0, _, _ => none
  | n + 1, i8_a, l7_a => cond (decide (i8_a < (by1.length : Int))) (cond (decide (i8_a < most2)) (chk (decide (0 ≤ i8_a ∧ i8_a < (by1.length : Int))) (chk (decide ((p0.2.1.length : Int) ≠ (0 : Int))) (chk (small (l7_a.length + 1) 8) ((l42a N p0 by1 most2 n (w64 (i8_a + (1 : Int))) (l7_a ++ ([Int.tmod (w64 (by1.getD i8_a.toNat (0 : Int))) (p0.2.1.length : Int)] : List Int)))))))
      (some l7_a))
      (some l7_a)
theorem wl42a (N : Nat) (p0 : Int × List (List Int) × Unit) (by1 : List Int) (most2 : Int) (m : Nat) (i8_a : Int) (l7_a : List Int) : R42_0 N (m + 1) (Sl42a p0 by1 most2 i8_a l7_a) = cond (decide (i8_a < (by1.length : Int))) (cond (decide (i8_a < most2)) (chk (decide (0 ≤ i8_a ∧ i8_a < (by1.length : Int))) (chk (decide ((p0.2.1.length : Int) ≠ (0 : Int))) (chk (small (l7_a.length + 1) 8) ((R42_0 N m (Sl42a p0 by1 most2 (w64 (i8_a + (1 : Int))) (l7_a ++ ([Int.tmod (w64 (by1.getD i8_a.toNat (0 : Int))) (p0.2.1.length : Int)] : List Int))))))))
      (some l7_a))
      (some l7_a) := by kernel_rfl
theorem ql42a (N : Nat) (p0 : Int × List (List Int) × Unit) (by1 : List Int) (most2 : Int) : ∀ (m : Nat) (i8_a : Int) (l7_a : List Int), R42_0 N m (Sl42a p0 by1 most2 i8_a l7_a) = l42a N p0 by1 most2 m i8_a l7_a
        | 0, _, _ => rfl
        | m + 1, i8_a, l7_a => by rw [wl42a]; simp only [l42a, ql42a N p0 by1 most2 m]
def m42 (N : Nat) (p0 : Int × List (List Int) × Unit) (by1 : List Int) (most2 : Int) : Option (List Int) :=
      (l42a N p0 by1 most2 N (0 : Int) ([] : List Int))
theorem wm42 (N : Nat) (p0 : Int × List (List Int) × Unit) (by1 : List Int) (most2 : Int) : callF (E42) lv42 N en42 c42 (resOf Try.f42) 30 [.dv (.pair (.int .i64) (.pair (.sl (.sl (.int .i64))) (.unit))) p0, .dv (.sl (.int .u8)) by1, .dv (.int .i64) most2] [] dec42 = (R42_0 N N (Sl42a p0 by1 most2 (0 : Int) ([] : List Int))) := by kernel_rfl
theorem k42 (N : Nat) (p0 : Int × List (List Int) × Unit) (by1 : List Int) (most2 : Int) : callF (E42) lv42 N en42 c42 (resOf Try.f42) 30 [.dv (.pair (.int .i64) (.pair (.sl (.sl (.int .i64))) (.unit))) p0, .dv (.sl (.int .u8)) by1, .dv (.int .i64) most2] [] dec42 = m42 N p0 by1 most2 := by rw [wm42]; simp only [m42, ql42a]
theorem ok42 (a : (Int × List (List Int) × Unit) → (List Int) → Int → Option (List Int)) (h : ∀ p0 by1 most2 r, a p0 by1 most2 = some r → (∃ N, m42 N p0 by1 most2 = some r)) : FnOk Try.prog 42 (F42 a) := by
  intro args Of x hx
  simp only [F42] at hx
  split at hx
  · rename_i p0 by1 most2
    obtain ⟨N, hN⟩ := h _ _ _ _ hx
    refine lifted (L := []) (rc := nrc) (fz := nfz) (fn := Try.f42) (by kernel_rfl) (by kernel_rfl) (by kernel_rfl) (by kernel_rfl) rfl ?_ ((k42 N _ _ _).trans hN) ?_
    · intro p hp; cases hp
    · intro l o hd
      simp only [dec42] at hd
      split at hd
      · obtain rfl := Option.some.inj hd; exact ⟨rfl, rfl⟩
      · cases hd
  · cases hx
def E43 : Env := mkE TI TY [] nrc nfz
noncomputable def c43 : Code := bodyOf Try.f43
def nm43_0 : Norm := ⟨[1, 2, 5, 16, 17], [2, 14], [], []⟩
def nm43_1 : Norm := ⟨[1, 2, 5, 7], [2, 14], [], []⟩
def nm43_2 : Norm := ⟨[1, 2, 5, 7, 8, 9, 31, 32, 33], [2, 14], [], []⟩
def lv43 : Nat → Option Norm := norms [(3, nm43_0), (8, nm43_1), (12, nm43_2)]
def en43 : End := ⟨[], ⟨[], [], [(.slot 72, 1500, .int .i64)], []⟩⟩
def dec43 (l : List TV) (o : List (Nat × TO)) : Option (List Int) := match l, o with | [.row 1500], [(1500, .row (.int .i64) x0)] => some (x0) | _, _ => none
noncomputable def K43_0 (N : Nat) : Kont (List Int) := kont (E43) lv43 N c43 [1, 1, 0, 1, 0] (fin TI en43 (resOf Try.f43) dec43)
noncomputable def R43_0 (N : Nat) (m : Nat) : TS → Option (List Int) := loopK (den (E43) lv43 N (sub c43 [1, 1, 0, 1, 0, 0])) (TS.norm nm43_0) (K43_0 N) m
noncomputable def K43_1 (N : Nat) : Kont (List Int) := kont (E43) lv43 N c43 [1, 1, 1, 0, 1, 0] (fin TI en43 (resOf Try.f43) dec43)
noncomputable def R43_1 (N : Nat) (m : Nat) : TS → Option (List Int) := loopK (den (E43) lv43 N (sub c43 [1, 1, 1, 0, 1, 0, 0])) (TS.norm nm43_1) (K43_1 N) m
noncomputable def K43_2 (N : Nat) (T43_1 : TS → Option (List Int)) : Kont (List Int) := kont (E43) lv43 N (sub c43 [1, 1, 1, 0, 1, 0, 0]) [1, 0, 0, 1, 0, 1, 0] (kloop (TS.norm nm43_1) (K43_1 N) T43_1)
noncomputable def R43_2 (N : Nat) (T43_1 : TS → Option (List Int)) (m : Nat) : TS → Option (List Int) := loopK (den (E43) lv43 N (sub c43 [1, 1, 1, 0, 1, 0, 0, 1, 0, 0, 1, 0, 1, 0, 0])) (TS.norm nm43_2) (K43_2 N T43_1) m
def Sl43c (p0 : Int × List (List Int) × Unit) (l1 : List Int) (set7_b : Int) (o14_b : List Int) (c8_c : Int) (n9_c : Int) (t33_c : Int) : TS := ⟨slots 72 [(1, .dv (.sl (.int .i64)) l1), (2, .ptr 2 0 []), (5, .row 14), (7, .dv (.int .i64) set7_b), (8, .dv (.int .i64) c8_c), (9, .dv (.int .i64) n9_c), (31, .dv (.sl (.int .i64)) l1), (32, .dv (.int .i64) (l1.length : Int)), (33, .dv (.int .i64) t33_c)], [(2, .row (.pair (.int .i64) (.pair (.sl (.sl (.int .i64))) (.unit))) ([p0] : List (Int × List (List Int) × Unit))), (14, .row (.int .i64) o14_b)]⟩
def Sl43b (p0 : Int × List (List Int) × Unit) (l1 : List Int) (set7_b : Int) (o14_b : List Int) : TS := ⟨slots 72 [(1, .dv (.sl (.int .i64)) l1), (2, .ptr 2 0 []), (5, .row 14), (7, .dv (.int .i64) set7_b)], [(2, .row (.pair (.int .i64) (.pair (.sl (.sl (.int .i64))) (.unit))) ([p0] : List (Int × List (List Int) × Unit))), (14, .row (.int .i64) o14_b)]⟩
def Sl43a (p0 : Int × List (List Int) × Unit) (l1 : List Int) (t17_a : Int) (o14_a : List Int) : TS := ⟨slots 72 [(1, .dv (.sl (.int .i64)) l1), (2, .ptr 2 0 []), (5, .row 14), (16, .dv (.int .i64) ((List.replicate p0.1.toNat (0 : Int)).length : Int)), (17, .dv (.int .i64) t17_a)], [(2, .row (.pair (.int .i64) (.pair (.sl (.sl (.int .i64))) (.unit))) ([p0] : List (Int × List (List Int) × Unit))), (14, .row (.int .i64) o14_a)]⟩
def l43c (N : Nat) (p0 : Int × List (List Int) × Unit) (l1 : List Int) (set7_b : Int) (o14_b : List Int) (rec_l43b : Int → (List Int) → Option (List Int)) : Nat → Int → Int → Int → Option (List Int)
  | 0, _, _, _ => none
  | n + 1, c8_c, n9_c, t33_c => cond (decide (t33_c < (l1.length : Int))) (chk (decide (0 ≤ t33_c ∧ t33_c < (l1.length : Int))) (chk (decide (0 ≤ t33_c)) (cond ((bAnd .i64 (Int.fdiv set7_b (2 ^ min (Int.toNat t33_c) 64)) (1 : Int)) == (1 : Int)) (chk (decide (0 ≤ l1.getD t33_c.toNat (0 : Int) ∧ l1.getD t33_c.toNat (0 : Int) < (p0.2.1.length : Int))) (chk (decide (0 ≤ c8_c ∧ c8_c < ((p0.2.1.getD ((l1.getD t33_c.toNat (0 : Int)).toNat) ([] : List Int)).length : Int))) ((l43c N p0 l1 set7_b o14_b rec_l43b n ((p0.2.1.getD ((l1.getD t33_c.toNat (0 : Int)).toNat) ([] : List Int)).getD c8_c.toNat (0 : Int)) (w64 (n9_c + (1 : Int))) (w64 (t33_c + (1 : Int)))))))
      ((l43c N p0 l1 set7_b o14_b rec_l43b n c8_c n9_c (w64 (t33_c + (1 : Int))))))))
      (chk (decide (0 ≤ c8_c ∧ c8_c < (o14_b.length : Int))) (cond (decide ((o14_b.getD c8_c.toNat (0 : Int)) < (0 : Int))) (chk (decide (0 ≤ c8_c ∧ c8_c < (o14_b.length : Int))) ((rec_l43b (w64 (set7_b + (1 : Int))) (o14_b.set c8_c.toNat n9_c))))
      (chk (decide (0 ≤ c8_c ∧ c8_c < (o14_b.length : Int))) (cond (decide (n9_c < (o14_b.getD c8_c.toNat (0 : Int)))) (chk (decide (0 ≤ c8_c ∧ c8_c < (o14_b.length : Int))) ((rec_l43b (w64 (set7_b + (1 : Int))) (o14_b.set c8_c.toNat n9_c))))
      ((rec_l43b (w64 (set7_b + (1 : Int))) o14_b))))))
theorem wl43c (N : Nat) (p0 : Int × List (List Int) × Unit) (l1 : List Int) (set7_b : Int) (o14_b : List Int) (T43_1 : TS → Option (List Int)) (m : Nat) (c8_c : Int) (n9_c : Int) (t33_c : Int) : R43_2 N T43_1 (m + 1) (Sl43c p0 l1 set7_b o14_b c8_c n9_c t33_c) = cond (decide (t33_c < (l1.length : Int))) (chk (decide (0 ≤ t33_c ∧ t33_c < (l1.length : Int))) (chk (decide (0 ≤ t33_c)) (cond ((bAnd .i64 (Int.fdiv set7_b (2 ^ min (Int.toNat t33_c) 64)) (1 : Int)) == (1 : Int)) (chk (decide (0 ≤ l1.getD t33_c.toNat (0 : Int) ∧ l1.getD t33_c.toNat (0 : Int) < (p0.2.1.length : Int))) (chk (decide (0 ≤ c8_c ∧ c8_c < ((p0.2.1.getD ((l1.getD t33_c.toNat (0 : Int)).toNat) ([] : List Int)).length : Int))) ((R43_2 N T43_1 m (Sl43c p0 l1 set7_b o14_b ((p0.2.1.getD ((l1.getD t33_c.toNat (0 : Int)).toNat) ([] : List Int)).getD c8_c.toNat (0 : Int)) (w64 (n9_c + (1 : Int))) (w64 (t33_c + (1 : Int))))))))
      ((R43_2 N T43_1 m (Sl43c p0 l1 set7_b o14_b c8_c n9_c (w64 (t33_c + (1 : Int)))))))))
      (chk (decide (0 ≤ c8_c ∧ c8_c < (o14_b.length : Int))) (cond (decide ((o14_b.getD c8_c.toNat (0 : Int)) < (0 : Int))) (chk (decide (0 ≤ c8_c ∧ c8_c < (o14_b.length : Int))) ((T43_1 (Sl43b p0 l1 (w64 (set7_b + (1 : Int))) (o14_b.set c8_c.toNat n9_c)))))
      (chk (decide (0 ≤ c8_c ∧ c8_c < (o14_b.length : Int))) (cond (decide (n9_c < (o14_b.getD c8_c.toNat (0 : Int)))) (chk (decide (0 ≤ c8_c ∧ c8_c < (o14_b.length : Int))) ((T43_1 (Sl43b p0 l1 (w64 (set7_b + (1 : Int))) (o14_b.set c8_c.toNat n9_c)))))
      ((T43_1 (Sl43b p0 l1 (w64 (set7_b + (1 : Int))) o14_b))))))) := by kernel_rfl
theorem ql43c (N : Nat) (p0 : Int × List (List Int) × Unit) (l1 : List Int) (set7_b : Int) (o14_b : List Int) (T43_1 : TS → Option (List Int)) : ∀ (m : Nat) (c8_c : Int) (n9_c : Int) (t33_c : Int), R43_2 N T43_1 m (Sl43c p0 l1 set7_b o14_b c8_c n9_c t33_c) = l43c N p0 l1 set7_b o14_b (fun y0 y1 => T43_1 (Sl43b p0 l1 y0 y1)) m c8_c n9_c t33_c
        | 0, _, _, _ => rfl
        | m + 1, c8_c, n9_c, t33_c => by rw [wl43c]; simp only [l43c, ql43c N p0 l1 set7_b o14_b T43_1 m]
def l43b (N : Nat) (p0 : Int × List (List Int) × Unit) (l1 : List Int) : Nat → Int → (List Int) → Option (List Int)
  | 0, _, _ => none
  | n + 1, set7_b, o14_b => chk (decide (0 ≤ (l1.length : Int))) (cond (decide (set7_b < (IntKind.wrap .i64 ((1 : Int) * 2 ^ min (Int.toNat (l1.length : Int)) 64)))) ((l43c N p0 l1 set7_b o14_b (fun y0 y1 => (l43b N p0 l1 n y0 y1)) N (0 : Int) (0 : Int) (0 : Int)))
      (some o14_b))
theorem wl43b (N : Nat) (p0 : Int × List (List Int) × Unit) (l1 : List Int) (m : Nat) (set7_b : Int) (o14_b : List Int) : R43_1 N (m + 1) (Sl43b p0 l1 set7_b o14_b) = chk (decide (0 ≤ (l1.length : Int))) (cond (decide (set7_b < (IntKind.wrap .i64 ((1 : Int) * 2 ^ min (Int.toNat (l1.length : Int)) 64)))) ((R43_2 N (R43_1 N m) N (Sl43c p0 l1 set7_b o14_b (0 : Int) (0 : Int) (0 : Int))))
      (some o14_b)) := by kernel_rfl
theorem ql43b (N : Nat) (p0 : Int × List (List Int) × Unit) (l1 : List Int) : ∀ (m : Nat) (set7_b : Int) (o14_b : List Int), R43_1 N m (Sl43b p0 l1 set7_b o14_b) = l43b N p0 l1 m set7_b o14_b
        | 0, _, _ => rfl
        | m + 1, set7_b, o14_b => by rw [wl43b]; simp only [l43b, ql43c, ql43b N p0 l1 m]
def l43a (N : Nat) (p0 : Int × List (List Int) × Unit) (l1 : List Int) : Nat → Int → (List Int) → Option (List Int)
  | 0, _, _ => none
  | n + 1, t17_a, o14_a => cond (decide (t17_a < ((List.replicate p0.1.toNat (0 : Int)).length : Int))) (chk (decide (0 ≤ t17_a ∧ t17_a < (o14_a.length : Int))) ((l43a N p0 l1 n (w64 (t17_a + (1 : Int))) (o14_a.set t17_a.toNat (-1 : Int)))))
      ((l43b N p0 l1 N (0 : Int) o14_a))
theorem wl43a (N : Nat) (p0 : Int × List (List Int) × Unit) (l1 : List Int) (m : Nat) (t17_a : Int) (o14_a : List Int) : R43_0 N (m + 1) (Sl43a p0 l1 t17_a o14_a) = cond (decide (t17_a < ((List.replicate p0.1.toNat (0 : Int)).length : Int))) (chk (decide (0 ≤ t17_a ∧ t17_a < (o14_a.length : Int))) ((R43_0 N m (Sl43a p0 l1 (w64 (t17_a + (1 : Int))) (o14_a.set t17_a.toNat (-1 : Int))))))
      ((R43_1 N N (Sl43b p0 l1 (0 : Int) o14_a))) := by kernel_rfl
theorem ql43a (N : Nat) (p0 : Int × List (List Int) × Unit) (l1 : List Int) : ∀ (m : Nat) (t17_a : Int) (o14_a : List Int), R43_0 N m (Sl43a p0 l1 t17_a o14_a) = l43a N p0 l1 m t17_a o14_a
        | 0, _, _ => rfl
        | m + 1, t17_a, o14_a => by rw [wl43a]; simp only [l43a, ql43b, ql43a N p0 l1 m]
def m43 (N : Nat) (p0 : Int × List (List Int) × Unit) (l1 : List Int) : Option (List Int) :=
      chk (mkOk p0.1 p0.1 8) ((l43a N p0 l1 N (0 : Int) (List.replicate p0.1.toNat (0 : Int))))
theorem wm43 (N : Nat) (p0 : Int × List (List Int) × Unit) (l1 : List Int) : callF (E43) lv43 N en43 c43 (resOf Try.f43) 70 [.dv (.pair (.int .i64) (.pair (.sl (.sl (.int .i64))) (.unit))) p0, .dv (.sl (.int .i64)) l1] [] dec43 = chk (mkOk p0.1 p0.1 8) ((R43_0 N N (Sl43a p0 l1 (0 : Int) (List.replicate p0.1.toNat (0 : Int))))) := by kernel_rfl
theorem k43 (N : Nat) (p0 : Int × List (List Int) × Unit) (l1 : List Int) : callF (E43) lv43 N en43 c43 (resOf Try.f43) 70 [.dv (.pair (.int .i64) (.pair (.sl (.sl (.int .i64))) (.unit))) p0, .dv (.sl (.int .i64)) l1] [] dec43 = m43 N p0 l1 := by rw [wm43]; simp only [m43, ql43a]
theorem ok43 (a : (Int × List (List Int) × Unit) → (List Int) → Option (List Int)) (h : ∀ p0 l1 r, a p0 l1 = some r → (∃ N, m43 N p0 l1 = some r)) : FnOk Try.prog 43 (F43 a) := by
  intro args Of x hx
  simp only [F43] at hx
  split at hx
  · rename_i p0 l1
    obtain ⟨N, hN⟩ := h _ _ _ hx
    refine lifted (L := []) (rc := nrc) (fz := nfz) (fn := Try.f43) (by kernel_rfl) (by kernel_rfl) (by kernel_rfl) (by kernel_rfl) rfl ?_ ((k43 N _ _).trans hN) ?_
    · intro p hp; cases hp
    · intro l o hd
      simp only [dec43] at hd
      split at hd
      · obtain rfl := Option.some.inj hd; exact ⟨rfl, rfl⟩
      · cases hd
  · cases hx
def E44 : Env := mkE TI TY [] nrc nfz
noncomputable def c44 : Code := bodyOf Try.f44
def nm44_0 : Norm := ⟨[6, 7, 8], [], [(.slot 3, 1003, .int .i64)], []⟩
def lv44 : Nat → Option Norm := norms [(3, nm44_0)]
def en44 : End := ⟨[(21, .sl (.int .i64))], ⟨[21], [], [], []⟩⟩
def dec44 (l : List TV) (o : List (Nat × TO)) : Option (List Int) := match l, o with | [.dv (.sl (.int .i64)) x0], [] => some (x0) | _, _ => none
noncomputable def K44_0 (N : Nat) : Kont (List Int) := kont (E44) lv44 N c44 [1, 1, 0, 1, 0] (fin TI en44 (resOf Try.f44) dec44)
noncomputable def R44_0 (N : Nat) (m : Nat) : TS → Option (List Int) := loopK (den (E44) lv44 N (sub c44 [1, 1, 0, 1, 0, 0])) (TS.norm nm44_0) (K44_0 N) m
def Sl44a (least0 : List Int) (t8_a : Int) (out3_a : List Int) : TS := ⟨slots 21 [(3, .row 1003), (6, .dv (.sl (.int .i64)) least0), (7, .dv (.int .i64) (least0.length : Int)), (8, .dv (.int .i64) t8_a)], [(1003, .row (.int .i64) out3_a)]⟩
def l44a (N : Nat) (least0 : List Int) : Nat → Int → (List Int) → Option (List Int)
  | 0, _, _ => none
  | n + 1, t8_a, out3_a => cond (decide (t8_a < (least0.length : Int))) (chk (decide (0 ≤ t8_a ∧ t8_a < (least0.length : Int))) (cond (decide ((least0.getD t8_a.toNat (0 : Int)) ≥ (0 : Int))) (chk (small (out3_a.length + 1) 8) ((l44a N least0 n (w64 (t8_a + (1 : Int))) (out3_a ++ ([t8_a] : List Int)))))
      ((l44a N least0 n (w64 (t8_a + (1 : Int))) out3_a))))
      (some out3_a)
theorem wl44a (N : Nat) (least0 : List Int) (m : Nat) (t8_a : Int) (out3_a : List Int) : R44_0 N (m + 1) (Sl44a least0 t8_a out3_a) = cond (decide (t8_a < (least0.length : Int))) (chk (decide (0 ≤ t8_a ∧ t8_a < (least0.length : Int))) (cond (decide ((least0.getD t8_a.toNat (0 : Int)) ≥ (0 : Int))) (chk (small (out3_a.length + 1) 8) ((R44_0 N m (Sl44a least0 (w64 (t8_a + (1 : Int))) (out3_a ++ ([t8_a] : List Int))))))
      ((R44_0 N m (Sl44a least0 (w64 (t8_a + (1 : Int))) out3_a)))))
      (some out3_a) := by kernel_rfl
theorem ql44a (N : Nat) (least0 : List Int) : ∀ (m : Nat) (t8_a : Int) (out3_a : List Int), R44_0 N m (Sl44a least0 t8_a out3_a) = l44a N least0 m t8_a out3_a
        | 0, _, _ => rfl
        | m + 1, t8_a, out3_a => by rw [wl44a]; simp only [l44a, ql44a N least0 m]
def m44 (N : Nat) (least0 : List Int) : Option (List Int) :=
      (l44a N least0 N (0 : Int) ([] : List Int))
theorem wm44 (N : Nat) (least0 : List Int) : callF (E44) lv44 N en44 c44 (resOf Try.f44) 20 [.dv (.sl (.int .i64)) least0] [] dec44 = (R44_0 N N (Sl44a least0 (0 : Int) ([] : List Int))) := by kernel_rfl
theorem k44 (N : Nat) (least0 : List Int) : callF (E44) lv44 N en44 c44 (resOf Try.f44) 20 [.dv (.sl (.int .i64)) least0] [] dec44 = m44 N least0 := by rw [wm44]; simp only [m44, ql44a]
theorem ok44 (a : (List Int) → Option (List Int)) (h : ∀ least0 r, a least0 = some r → (∃ N, m44 N least0 = some r)) : FnOk Try.prog 44 (F44 a) := by
  intro args Of x hx
  simp only [F44] at hx
  split at hx
  · rename_i least0
    obtain ⟨N, hN⟩ := h _ _ hx
    refine lifted (L := []) (rc := nrc) (fz := nfz) (fn := Try.f44) (by kernel_rfl) (by kernel_rfl) (by kernel_rfl) (by kernel_rfl) rfl ?_ ((k44 N _).trans hN) ?_
    · intro p hp; cases hp
    · intro l o hd
      simp only [dec44] at hd
      split at hd
      · obtain rfl := Option.some.inj hd; exact ⟨rfl, rfl⟩
      · cases hd
  · cases hx
def E49 : Env := mkE TI TY [] nrc nfz
noncomputable def c49 : Code := bodyOf Try.f49
def nm49_0 : Norm := ⟨[1, 10, 11, 12], [], [], []⟩
def nm49_1 : Norm := ⟨[1, 6, 7, 10, 11, 12, 16, 17, 18], [], [], []⟩
def lv49 : Nat → Option Norm := norms [(2, nm49_0), (6, nm49_1)]
def en49 : End := ⟨[], ⟨[32], [], [], []⟩⟩
def dec49 (l : List TV) (o : List (Nat × TO)) : Option (Bool) := match l, o with | [.dv (.bool) x0], [] => some (x0) | _, _ => none
noncomputable def K49_0 (N : Nat) : Kont (Bool) := kont (E49) lv49 N c49 [1, 0, 1, 0] (fin TI en49 (resOf Try.f49) dec49)
noncomputable def R49_0 (N : Nat) (m : Nat) : TS → Option (Bool) := loopK (den (E49) lv49 N (sub c49 [1, 0, 1, 0, 0])) (TS.norm nm49_0) (K49_0 N) m
noncomputable def K49_1 (N : Nat) (T49_0 : TS → Option (Bool)) : Kont (Bool) := kont (E49) lv49 N (sub c49 [1, 0, 1, 0, 0]) [1, 1, 0, 0, 1, 1, 0, 1, 0] (kloop (TS.norm nm49_0) (K49_0 N) T49_0)
noncomputable def R49_1 (N : Nat) (T49_0 : TS → Option (Bool)) (m : Nat) : TS → Option (Bool) := loopK (den (E49) lv49 N (sub c49 [1, 0, 1, 0, 0, 1, 1, 0, 0, 1, 1, 0, 1, 0, 0])) (TS.norm nm49_1) (K49_1 N T49_0) m
def Sl49b (a0 : List Int) (b1 : List Int) (t12_a : Int) (found7_b : Bool) (t18_b : Int) : TS := ⟨slots 32 [(1, .dv (.sl (.int .i64)) b1), (6, .dv (.int .i64) (a0.getD t12_a.toNat (0 : Int))), (7, .dv (.bool) found7_b), (10, .dv (.sl (.int .i64)) a0), (11, .dv (.int .i64) (a0.length : Int)), (12, .dv (.int .i64) t12_a), (16, .dv (.sl (.int .i64)) b1), (17, .dv (.int .i64) (b1.length : Int)), (18, .dv (.int .i64) t18_b)], []⟩
def Sl49a (a0 : List Int) (b1 : List Int) (t12_a : Int) : TS := ⟨slots 32 [(1, .dv (.sl (.int .i64)) b1), (10, .dv (.sl (.int .i64)) a0), (11, .dv (.int .i64) (a0.length : Int)), (12, .dv (.int .i64) t12_a)], []⟩
def l49b (N : Nat) (a0 : List Int) (b1 : List Int) (t12_a : Int) (rec_l49a : Int → Option (Bool)) : Nat → Bool → Int → Option (Bool)
  | 0, _, _ => none
  | n + 1, found7_b, t18_b => cond (decide (t18_b < (b1.length : Int))) (chk (decide (0 ≤ t18_b ∧ t18_b < (b1.length : Int))) (cond (found7_b) ((l49b N a0 b1 t12_a rec_l49a n true (w64 (t18_b + (1 : Int)))))
      ((l49b N a0 b1 t12_a rec_l49a n ((a0.getD t12_a.toNat (0 : Int)) == (b1.getD t18_b.toNat (0 : Int))) (w64 (t18_b + (1 : Int)))))))
      (cond (!found7_b) (some false)
      ((rec_l49a (w64 (t12_a + (1 : Int))))))
theorem wl49b (N : Nat) (a0 : List Int) (b1 : List Int) (t12_a : Int) (T49_0 : TS → Option (Bool)) (m : Nat) (found7_b : Bool) (t18_b : Int) : R49_1 N T49_0 (m + 1) (Sl49b a0 b1 t12_a found7_b t18_b) = cond (decide (t18_b < (b1.length : Int))) (chk (decide (0 ≤ t18_b ∧ t18_b < (b1.length : Int))) (cond (found7_b) ((R49_1 N T49_0 m (Sl49b a0 b1 t12_a true (w64 (t18_b + (1 : Int))))))
      ((R49_1 N T49_0 m (Sl49b a0 b1 t12_a ((a0.getD t12_a.toNat (0 : Int)) == (b1.getD t18_b.toNat (0 : Int))) (w64 (t18_b + (1 : Int))))))))
      (cond (!found7_b) (some false)
      ((T49_0 (Sl49a a0 b1 (w64 (t12_a + (1 : Int))))))) := by kernel_rfl
theorem ql49b (N : Nat) (a0 : List Int) (b1 : List Int) (t12_a : Int) (T49_0 : TS → Option (Bool)) : ∀ (m : Nat) (found7_b : Bool) (t18_b : Int), R49_1 N T49_0 m (Sl49b a0 b1 t12_a found7_b t18_b) = l49b N a0 b1 t12_a (fun y0 => T49_0 (Sl49a a0 b1 y0)) m found7_b t18_b
        | 0, _, _ => rfl
        | m + 1, found7_b, t18_b => by rw [wl49b]; simp only [l49b, ql49b N a0 b1 t12_a T49_0 m]
def l49a (N : Nat) (a0 : List Int) (b1 : List Int) : Nat → Int → Option (Bool)
  | 0, _ => none
  | n + 1, t12_a => cond (decide (t12_a < (a0.length : Int))) (chk (decide (0 ≤ t12_a ∧ t12_a < (a0.length : Int))) ((l49b N a0 b1 t12_a (fun y0 => (l49a N a0 b1 n y0)) N false (0 : Int))))
      (some true)
theorem wl49a (N : Nat) (a0 : List Int) (b1 : List Int) (m : Nat) (t12_a : Int) : R49_0 N (m + 1) (Sl49a a0 b1 t12_a) = cond (decide (t12_a < (a0.length : Int))) (chk (decide (0 ≤ t12_a ∧ t12_a < (a0.length : Int))) ((R49_1 N (R49_0 N m) N (Sl49b a0 b1 t12_a false (0 : Int)))))
      (some true) := by kernel_rfl
theorem ql49a (N : Nat) (a0 : List Int) (b1 : List Int) : ∀ (m : Nat) (t12_a : Int), R49_0 N m (Sl49a a0 b1 t12_a) = l49a N a0 b1 m t12_a
        | 0, _ => rfl
        | m + 1, t12_a => by rw [wl49a]; simp only [l49a, ql49b, ql49a N a0 b1 m]
def m49 (N : Nat) (a0 : List Int) (b1 : List Int) : Option (Bool) :=
      (l49a N a0 b1 N (0 : Int))
theorem wm49 (N : Nat) (a0 : List Int) (b1 : List Int) : callF (E49) lv49 N en49 c49 (resOf Try.f49) 30 [.dv (.sl (.int .i64)) a0, .dv (.sl (.int .i64)) b1] [] dec49 = (R49_0 N N (Sl49a a0 b1 (0 : Int))) := by kernel_rfl
theorem k49 (N : Nat) (a0 : List Int) (b1 : List Int) : callF (E49) lv49 N en49 c49 (resOf Try.f49) 30 [.dv (.sl (.int .i64)) a0, .dv (.sl (.int .i64)) b1] [] dec49 = m49 N a0 b1 := by rw [wm49]; simp only [m49, ql49a]
theorem ok49 (a : (List Int) → (List Int) → Option (Bool)) (h : ∀ a0 b1 r, a a0 b1 = some r → (∃ N, m49 N a0 b1 = some r)) : FnOk Try.prog 49 (F49 a) := by
  intro args Of x hx
  simp only [F49] at hx
  split at hx
  · rename_i a0 b1
    obtain ⟨N, hN⟩ := h _ _ _ hx
    refine lifted (L := []) (rc := nrc) (fz := nfz) (fn := Try.f49) (by kernel_rfl) (by kernel_rfl) (by kernel_rfl) (by kernel_rfl) rfl ?_ ((k49 N _ _).trans hN) ?_
    · intro p hp; cases hp
    · intro l o hd
      simp only [dec49] at hd
      split at hd
      · obtain rfl := Option.some.inj hd; exact ⟨rfl, rfl⟩
      · cases hd
  · cases hx
def E51 : Env := mkE TI TY [] nrc nfz
noncomputable def c51 : Code := bodyOf Try.f51
def nm51_0 : Norm := ⟨[0, 1, 7, 8], [], [], []⟩
def lv51 : Nat → Option Norm := norms [(2, nm51_0)]
def en51 : End := ⟨[], ⟨[36], [], [], []⟩⟩
def dec51 (l : List TV) (o : List (Nat × TO)) : Option (Bool) := match l, o with | [.dv (.bool) x0], [] => some (x0) | _, _ => none
noncomputable def K51_0 (N : Nat) : Kont (Bool) := kont (E51) lv51 N c51 [1, 0, 1, 0] (fin TI en51 (resOf Try.f51) dec51)
noncomputable def R51_0 (N : Nat) (m : Nat) : TS → Option (Bool) := loopK (den (E51) lv51 N (sub c51 [1, 0, 1, 0, 0])) (TS.norm nm51_0) (K51_0 N) m
def Sl51a (a0 : List Int) (b1 : List Int) (t8_a : Int) : TS := ⟨slots 36 [(0, .dv (.sl (.int .i64)) a0), (1, .dv (.sl (.int .i64)) b1), (7, .dv (.int .i64) (a0.length : Int)), (8, .dv (.int .i64) t8_a)], []⟩
def l51a (N : Nat) (a0 : List Int) (b1 : List Int) : Nat → Int → Option (Bool)
  | 0, _ => none
  | n + 1, t8_a => cond (decide (t8_a < (a0.length : Int))) (cond (decide (t8_a < (b1.length : Int))) (chk (decide (0 ≤ t8_a ∧ t8_a < (a0.length : Int))) (chk (decide (0 ≤ t8_a ∧ t8_a < (b1.length : Int))) (cond ((a0.getD t8_a.toNat (0 : Int)) != (b1.getD t8_a.toNat (0 : Int))) (chk (decide (0 ≤ t8_a ∧ t8_a < (a0.length : Int))) (chk (decide (0 ≤ t8_a ∧ t8_a < (b1.length : Int))) (some (decide ((a0.getD t8_a.toNat (0 : Int)) < (b1.getD t8_a.toNat (0 : Int)))))))
      ((l51a N a0 b1 n (w64 (t8_a + (1 : Int))))))))
      ((l51a N a0 b1 n (w64 (t8_a + (1 : Int))))))
      (some false)
theorem wl51a (N : Nat) (a0 : List Int) (b1 : List Int) (m : Nat) (t8_a : Int) : R51_0 N (m + 1) (Sl51a a0 b1 t8_a) = cond (decide (t8_a < (a0.length : Int))) (cond (decide (t8_a < (b1.length : Int))) (chk (decide (0 ≤ t8_a ∧ t8_a < (a0.length : Int))) (chk (decide (0 ≤ t8_a ∧ t8_a < (b1.length : Int))) (cond ((a0.getD t8_a.toNat (0 : Int)) != (b1.getD t8_a.toNat (0 : Int))) (chk (decide (0 ≤ t8_a ∧ t8_a < (a0.length : Int))) (chk (decide (0 ≤ t8_a ∧ t8_a < (b1.length : Int))) (some (decide ((a0.getD t8_a.toNat (0 : Int)) < (b1.getD t8_a.toNat (0 : Int)))))))
      ((R51_0 N m (Sl51a a0 b1 (w64 (t8_a + (1 : Int)))))))))
      ((R51_0 N m (Sl51a a0 b1 (w64 (t8_a + (1 : Int)))))))
      (some false) := by kernel_rfl
theorem ql51a (N : Nat) (a0 : List Int) (b1 : List Int) : ∀ (m : Nat) (t8_a : Int), R51_0 N m (Sl51a a0 b1 t8_a) = l51a N a0 b1 m t8_a
        | 0, _ => rfl
        | m + 1, t8_a => by rw [wl51a]; simp only [l51a, ql51a N a0 b1 m]
def m51 (N : Nat) (a0 : List Int) (b1 : List Int) : Option (Bool) :=
      (l51a N a0 b1 N (0 : Int))
theorem wm51 (N : Nat) (a0 : List Int) (b1 : List Int) : callF (E51) lv51 N en51 c51 (resOf Try.f51) 34 [.dv (.sl (.int .i64)) a0, .dv (.sl (.int .i64)) b1] [] dec51 = (R51_0 N N (Sl51a a0 b1 (0 : Int))) := by kernel_rfl
theorem k51 (N : Nat) (a0 : List Int) (b1 : List Int) : callF (E51) lv51 N en51 c51 (resOf Try.f51) 34 [.dv (.sl (.int .i64)) a0, .dv (.sl (.int .i64)) b1] [] dec51 = m51 N a0 b1 := by rw [wm51]; simp only [m51, ql51a]
theorem ok51 (a : (List Int) → (List Int) → Option (Bool)) (h : ∀ a0 b1 r, a a0 b1 = some r → (∃ N, m51 N a0 b1 = some r)) : FnOk Try.prog 51 (F51 a) := by
  intro args Of x hx
  simp only [F51] at hx
  split at hx
  · rename_i a0 b1
    obtain ⟨N, hN⟩ := h _ _ _ hx
    refine lifted (L := []) (rc := nrc) (fz := nfz) (fn := Try.f51) (by kernel_rfl) (by kernel_rfl) (by kernel_rfl) (by kernel_rfl) rfl ?_ ((k51 N _ _).trans hN) ?_
    · intro p hp; cases hp
    · intro l o hd
      simp only [dec51] at hd
      split at hd
      · obtain rfl := Option.some.inj hd; exact ⟨rfl, rfl⟩
      · cases hd
  · cases hx
end Go.Proofs.Ytaioadjcdjmkdaa
