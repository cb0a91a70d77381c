import Derived.Test.YtmpbbkldopfkpaaDoorQFI
namespace Go.Proofs.YtmpbbkldopfkpaaDoor
open Go.RowKit
set_option linter.unusedVariables false
def E26 : Env := mkE TI TY [] (fun i => ([(3, [some (.int .i64), none]), (13, [some (.int .i64), none])] : List (Nat × List (Option DT))).lookup i) nfz
noncomputable def c26 : Code := bodyOf Tryd.f26
def nm26_0 : Norm := ⟨[1, 2, 3, 4, 5], [1, 2, 3], [(.fld 3 1, 2100, .arr 2 (.int .i64))], []⟩
def nm26_1 : Norm := ⟨[1, 2, 3, 4, 5, 6], [1, 2, 3], [(.fld 3 1, 2100, .arr 2 (.int .i64))], []⟩
def lv26 : Nat → Option Norm := norms [(4, nm26_0), (7, nm26_1)]
def en26 : End := ⟨[(55, .pair (.int .i64) (.pair (.sl (.arr 2 (.int .i64))) (.unit)))], ⟨[55], [], [], []⟩⟩
def dec26 (l : List TV) (o : List (Nat × TO)) : Option (Int × List (List Int) × Unit) := match l, o with | [.dv (.pair (.int .i64) (.pair (.sl (.arr 2 (.int .i64))) (.unit))) x0], [] => some (x0) | _, _ => none
def Sl26b (d0 : Int × Int × Unit) (x5_a : Int) (bit4_b : Int) (y6_b : Int) (o2100_b : List (List Int)) : TS := ⟨slots 55 [(1, .ptr 1 0 []), (2, .ptr 2 0 []), (3, .ptr 3 0 []), (4, .dv (.int .i64) bit4_b), (5, .dv (.int .i64) x5_a), (6, .dv (.int .i64) y6_b)], [(2100, .row (.arr 2 (.int .i64)) o2100_b), (1, .row (.pair (.int .u8) (.pair (.int .u8) (.unit))) ([d0] : List (Int × Int × Unit))), (2, .row (.pair (.int .i64) (.pair (.sl (.arr 2 (.int .i64))) (.unit))) ([((0 : Int), (([] : List (List Int)), ()))] : List (Int × List (List Int) × Unit))), (3, .rcd [.dv (.int .i64) (w64 ((2 : Int) + (Int.tmod (w64 (d0.1)) (3 : Int)))), .row 2100])]⟩
def Sl26a (d0 : Int × Int × Unit) (bit4_a : Int) (x5_a : Int) (o2100_a : List (List Int)) : TS := ⟨slots 55 [(1, .ptr 1 0 []), (2, .ptr 2 0 []), (3, .ptr 3 0 []), (4, .dv (.int .i64) bit4_a), (5, .dv (.int .i64) x5_a)], [(2100, .row (.arr 2 (.int .i64)) o2100_a), (1, .row (.pair (.int .u8) (.pair (.int .u8) (.unit))) ([d0] : List (Int × Int × Unit))), (2, .row (.pair (.int .i64) (.pair (.sl (.arr 2 (.int .i64))) (.unit))) ([((0 : Int), (([] : List (List Int)), ()))] : List (Int × List (List Int) × Unit))), (3, .rcd [.dv (.int .i64) (w64 ((2 : Int) + (Int.tmod (w64 (d0.1)) (3 : Int)))), .row 2100])]⟩
noncomputable def K26_0 (N : Nat) : Kont (Int × List (List Int) × Unit) := kont (E26) lv26 N c26 [1, 1, 1, 0, 1, 0] (fin TI en26 (resOf Tryd.f26) dec26)
noncomputable def R26_0 (N : Nat) (m : Nat) : TS → Option (Int × List (List Int) × Unit) := loopK (den (E26) lv26 N (sub c26 [1, 1, 1, 0, 1, 0, 0])) (TS.norm nm26_0) (K26_0 N) m
noncomputable def K26_1 (N : Nat) (T26_0 : TS → Option (Int × List (List Int) × Unit)) : Kont (Int × List (List Int) × Unit) := kont (E26) lv26 N (sub c26 [1, 1, 1, 0, 1, 0, 0]) [1, 0, 0, 1, 0] (kloop (TS.norm nm26_0) (K26_0 N) T26_0)
noncomputable def R26_1 (N : Nat) (T26_0 : TS → Option (Int × List (List Int) × Unit)) (m : Nat) : TS → Option (Int × List (List Int) × Unit) := loopK (den (E26) lv26 N (sub c26 [1, 1, 1, 0, 1, 0, 0, 1, 0, 0, 1, 0, 0])) (TS.norm nm26_1) (K26_1 N T26_0) m
def l26b (N : Nat) (d0 : Int × Int × Unit) (x5_a : Int) (rec_l26a : Int → Int → (List (List Int)) → Option (Int × List (List Int) × Unit)) : Nat → Int → Int → (List (List Int)) → Option (Int × List (List Int) × Unit)
 | 0, _, _, _ => none
 | n + 1, bit4_b, y6_b, o2100_b => cond (decide (y6_b < (w64 ((2 : Int) + (Int.tmod (w64 (d0.1)) (3 : Int)))))) (chk (decide (0 ≤ bit4_b)) (cond ((bAnd .u8 (Int.fdiv d0.2.1 (2 ^ min (Int.toNat bit4_b) 8)) (1 : Int)) == (1 : Int)) (chk (decide (0 ≤ bit4_b)) (cond ((bAnd .u8 (Int.fdiv d0.1 (2 ^ min (Int.toNat bit4_b) 8)) (1 : Int)) == (1 : Int)) (chk (small (o2100_b.length + 1) 16) ((l26b N d0 x5_a rec_l26a n (w64 (bit4_b + (1 : Int))) (w64 (y6_b + (1 : Int))) (o2100_b ++ ([([y6_b, x5_a] : List Int)] : List (List Int))))))
   (chk (small (o2100_b.length + 1) 16) ((l26b N d0 x5_a rec_l26a n (w64 (bit4_b + (1 : Int))) (w64 (y6_b + (1 : Int))) (o2100_b ++ ([([x5_a, y6_b] : List Int)] : List (List Int))))))))
   ((l26b N d0 x5_a rec_l26a n (w64 (bit4_b + (1 : Int))) (w64 (y6_b + (1 : Int))) o2100_b))))
   ((rec_l26a bit4_b (w64 (x5_a + (1 : Int))) o2100_b))
theorem wl26b (N : Nat) (d0 : Int × Int × Unit) (x5_a : Int) (T26_0 : TS → Option (Int × List (List Int) × Unit)) (m : Nat) (bit4_b : Int) (y6_b : Int) (o2100_b : List (List Int)) : R26_1 N T26_0 (m + 1) (Sl26b d0 x5_a bit4_b y6_b o2100_b) = cond (decide (y6_b < (w64 ((2 : Int) + (Int.tmod (w64 (d0.1)) (3 : Int)))))) (chk (decide (0 ≤ bit4_b)) (cond ((bAnd .u8 (Int.fdiv d0.2.1 (2 ^ min (Int.toNat bit4_b) 8)) (1 : Int)) == (1 : Int)) (chk (decide (0 ≤ bit4_b)) (cond ((bAnd .u8 (Int.fdiv d0.1 (2 ^ min (Int.toNat bit4_b) 8)) (1 : Int)) == (1 : Int)) (chk (small (o2100_b.length + 1) 16) ((R26_1 N T26_0 m (Sl26b d0 x5_a (w64 (bit4_b + (1 : Int))) (w64 (y6_b + (1 : Int))) (o2100_b ++ ([([y6_b, x5_a] : List Int)] : List (List Int)))))))
   (chk (small (o2100_b.length + 1) 16) ((R26_1 N T26_0 m (Sl26b d0 x5_a (w64 (bit4_b + (1 : Int))) (w64 (y6_b + (1 : Int))) (o2100_b ++ ([([x5_a, y6_b] : List Int)] : List (List Int)))))))))
   ((R26_1 N T26_0 m (Sl26b d0 x5_a (w64 (bit4_b + (1 : Int))) (w64 (y6_b + (1 : Int))) o2100_b)))))
   ((T26_0 (Sl26a d0 bit4_b (w64 (x5_a + (1 : Int))) o2100_b))) := by kernel_rfl
theorem ql26b (N : Nat) (d0 : Int × Int × Unit) (x5_a : Int) (T26_0 : TS → Option (Int × List (List Int) × Unit)) : ∀ (m : Nat) (bit4_b : Int) (y6_b : Int) (o2100_b : List (List Int)), R26_1 N T26_0 m (Sl26b d0 x5_a bit4_b y6_b o2100_b) = l26b N d0 x5_a (fun y0 y1 y2 => T26_0 (Sl26a d0 y0 y1 y2)) m bit4_b y6_b o2100_b
        | 0, _, _, _ => rfl
        | m + 1, bit4_b, y6_b, o2100_b => by rw [wl26b]; simp only [l26b, ql26b N d0 x5_a T26_0 m]
def l26a (N : Nat) (d0 : Int × Int × Unit) : Nat → Int → Int → (List (List Int)) → Option (Int × List (List Int) × Unit)
 | 0, _, _, _ => none
 | n + 1, bit4_a, x5_a, o2100_a => cond (decide (x5_a < (w64 ((2 : Int) + (Int.tmod (w64 (d0.1)) (3 : Int)))))) ((l26b N d0 x5_a (fun y0 y1 y2 => (l26a N d0 n y0 y1 y2)) N bit4_a (w64 (x5_a + (1 : Int))) o2100_a))
   (some (w64 ((2 : Int) + (Int.tmod (w64 (d0.1)) (3 : Int))), (o2100_a, ())))
theorem wl26a (N : Nat) (d0 : Int × Int × Unit) (m : Nat) (bit4_a : Int) (x5_a : Int) (o2100_a : List (List Int)) : R26_0 N (m + 1) (Sl26a d0 bit4_a x5_a o2100_a) = cond (decide (x5_a < (w64 ((2 : Int) + (Int.tmod (w64 (d0.1)) (3 : Int)))))) ((R26_1 N (R26_0 N m) N (Sl26b d0 x5_a bit4_a (w64 (x5_a + (1 : Int))) o2100_a)))
   (some (w64 ((2 : Int) + (Int.tmod (w64 (d0.1)) (3 : Int))), (o2100_a, ()))) := by kernel_rfl
theorem ql26a (N : Nat) (d0 : Int × Int × Unit) : ∀ (m : Nat) (bit4_a : Int) (x5_a : Int) (o2100_a : List (List Int)), R26_0 N m (Sl26a d0 bit4_a x5_a o2100_a) = l26a N d0 m bit4_a x5_a o2100_a
        | 0, _, _, _ => rfl
        | m + 1, bit4_a, x5_a, o2100_a => by rw [wl26a]; simp only [l26a, ql26b, ql26a N d0 m]
def m26 (N : Nat) (d0 : Int × Int × Unit) : Option (Int × List (List Int) × Unit) :=
   (l26a N d0 N (0 : Int) (0 : Int) ([] : List (List Int)))
theorem wm26 (N : Nat) (d0 : Int × Int × Unit) : callF (E26) lv26 N en26 c26 (resOf Tryd.f26) 54 [.dv (.pair (.int .u8) (.pair (.int .u8) (.unit))) d0] [] dec26 = (R26_0 N N (Sl26a d0 (0 : Int) (0 : Int) ([] : List (List Int)))) := by kernel_rfl
theorem k26 (N : Nat) (d0 : Int × Int × Unit) : callF (E26) lv26 N en26 c26 (resOf Tryd.f26) 54 [.dv (.pair (.int .u8) (.pair (.int .u8) (.unit))) d0] [] dec26 = m26 N d0 := by rw [wm26]; simp only [m26, ql26a]
theorem ok26 (a : (Int × Int × Unit) → Option (Int × List (List Int) × Unit)) (h : ∀ d0 r, a d0 = some r → (∃ N, m26 N d0 = some r)) : FnOk Tryd.prog 26 (F26 a) := by
 intro args Of x hx
 simp only [F26] at hx
 split at hx
 ·rename_i d0
  obtain ⟨N, hN⟩ := h _ _ hx
  refine lifted (L := []) (rc := (fun i => ([(3, [some (.int .i64), none]), (13, [some (.int .i64), none])] : List (Nat × List (Option DT))).lookup i)) (fz := nfz) (fn := Tryd.f26) (by kernel_rfl) (by kernel_rfl) (by kernel_rfl) (by kernel_rfl) rfl ?_ ((k26 N _).trans hN) ?_
  ·intro p hp; cases hp
  ·intro l o hd
   simp only [dec26] at hd
   split at hd
   ·obtain rfl := Option.some.inj hd; exact ⟨rfl, rfl⟩
   ·cases hd
 ·cases hx
end Go.Proofs.YtmpbbkldopfkpaaDoor
