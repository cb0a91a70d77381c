import Derived.Test.YtmpbbkldopfkpaaDoorQFI
namespace Go.Proofs.YtmpbbkldopfkpaaDoor
open Go.RowKit
set_option linter.unusedVariables false
abbrev Q27T0 := Int × List (List Int) × Unit
def E27 : Env := mkE TI TY [] nrc nfz
noncomputable def c27 : Code := bodyOf Tryd.f27
def nm27_0 : Norm := ⟨[0, 2, 4, 7, 8], [4], [], []⟩
def lv27 : Nat → Option Norm := norms [(3, nm27_0)]
def en27 : End := ⟨[], ⟨[33], [], [], []⟩⟩
def dec27 (l : List TV) (o : List (Nat × TO)) : Option (List UInt8) := match l, o with | [.dv (.str) x0], [] => some (x0) | _, _ => none
def Sl27a (p0 : List Int) (o1 : Q27T0) (most2 : Int) (s7_a : List UInt8) (i8_a : Int) : TS := ⟨slots 33 [(0, .dv (.sl (.int .u8)) p0), (2, .dv (.int .i64) most2), (4, .ptr 4 0 []), (7, .dv (.str) s7_a), (8, .dv (.int .i64) i8_a)], [(4, .row (.pair (.int .i64) (.pair (.sl (.arr 2 (.int .i64))) (.unit))) ([o1] : List (Int × List (List Int) × Unit)))]⟩
noncomputable def K27_0 (N : Nat) : Kont (List UInt8) := kont (E27) lv27 N c27 [1, 1, 0, 1, 0] (fin TI en27 (resOf Tryd.f27) dec27)
noncomputable def R27_0 (N : Nat) (m : Nat) : TS → Option (List UInt8) := loopK (den (E27) lv27 N (sub c27 [1, 1, 0, 1, 0, 0])) (TS.norm nm27_0) (K27_0 N) m
def l27a (N : Nat) (p0 : List Int) (o1 : Q27T0) (most2 : Int) : Nat → (List UInt8) → Int → Option (List UInt8)
 | 0, _, _ => none
 | n + 1, s7_a, i8_a => cond (decide (i8_a < (p0.length : Int))) (cond (decide (i8_a < most2)) (chk (decide (0 ≤ i8_a ∧ i8_a < (p0.length : Int))) (chk (decide (o1.1 ≠ (0 : Int))) (chk (decide (0 ≤ Int.tmod (w64 (p0.getD i8_a.toNat (0 : Int))) o1.1 ∧ Int.tmod (w64 (p0.getD i8_a.toNat (0 : Int))) o1.1 ≤ (6 : Int))) (chk (decide (0 ≤ (1 : Int) ∧ (1 : Int) ≤ ((([97, 98, 99, 100, 101, 102] : List UInt8).drop ((Int.tmod (w64 (p0.getD i8_a.toNat (0 : Int))) o1.1).toNat)).length : Int))) (chk (decide (s7_a.length + ((([97, 98, 99, 100, 101, 102] : List UInt8).drop ((Int.tmod (w64 (p0.getD i8_a.toNat (0 : Int))) o1.1).toNat)).take 1).length ≤ 9223372036854775807)) ((l27a N p0 o1 most2 n (s7_a ++ ((([97, 98, 99, 100, 101, 102] : List UInt8).drop ((Int.tmod (w64 (p0.getD i8_a.toNat (0 : Int))) o1.1).toNat)).take 1)) (w64 (i8_a + (1 : Int))))))))))
   (some s7_a))
   (some s7_a)
theorem wl27a (N : Nat) (p0 : List Int) (o1 : Q27T0) (most2 : Int) (m : Nat) (s7_a : List UInt8) (i8_a : Int) : R27_0 N (m + 1) (Sl27a p0 o1 most2 s7_a i8_a) = cond (decide (i8_a < (p0.length : Int))) (cond (decide (i8_a < most2)) (chk (decide (0 ≤ i8_a ∧ i8_a < (p0.length : Int))) (chk (decide (o1.1 ≠ (0 : Int))) (chk (decide (0 ≤ Int.tmod (w64 (p0.getD i8_a.toNat (0 : Int))) o1.1 ∧ Int.tmod (w64 (p0.getD i8_a.toNat (0 : Int))) o1.1 ≤ (6 : Int))) (chk (decide (0 ≤ (1 : Int) ∧ (1 : Int) ≤ ((([97, 98, 99, 100, 101, 102] : List UInt8).drop ((Int.tmod (w64 (p0.getD i8_a.toNat (0 : Int))) o1.1).toNat)).length : Int))) (chk (decide (s7_a.length + ((([97, 98, 99, 100, 101, 102] : List UInt8).drop ((Int.tmod (w64 (p0.getD i8_a.toNat (0 : Int))) o1.1).toNat)).take 1).length ≤ 9223372036854775807)) ((R27_0 N m (Sl27a p0 o1 most2 (s7_a ++ ((([97, 98, 99, 100, 101, 102] : List UInt8).drop ((Int.tmod (w64 (p0.getD i8_a.toNat (0 : Int))) o1.1).toNat)).take 1)) (w64 (i8_a + (1 : Int)))))))))))
   (some s7_a))
   (some s7_a) := by kernel_rfl
theorem ql27a (N : Nat) (p0 : List Int) (o1 : Q27T0) (most2 : Int) : ∀ (m : Nat) (s7_a : List UInt8) (i8_a : Int), R27_0 N m (Sl27a p0 o1 most2 s7_a i8_a) = l27a N p0 o1 most2 m s7_a i8_a
        | 0, _, _ => rfl
        | m + 1, s7_a, i8_a => by rw [wl27a]; simp only [l27a, ql27a N p0 o1 most2 m]
def m27 (N : Nat) (p0 : List Int) (o1 : Q27T0) (most2 : Int) : Option (List UInt8) :=
   (l27a N p0 o1 most2 N ([] : List UInt8) (0 : Int))
theorem wm27 (N : Nat) (p0 : List Int) (o1 : Q27T0) (most2 : Int) : callF (E27) lv27 N en27 c27 (resOf Tryd.f27) 30 [.dv (.sl (.int .u8)) p0, .dv (.pair (.int .i64) (.pair (.sl (.arr 2 (.int .i64))) (.unit))) o1, .dv (.int .i64) most2] [] dec27 = (R27_0 N N (Sl27a p0 o1 most2 ([] : List UInt8) (0 : Int))) := by kernel_rfl
theorem k27 (N : Nat) (p0 : List Int) (o1 : Q27T0) (most2 : Int) : callF (E27) lv27 N en27 c27 (resOf Tryd.f27) 30 [.dv (.sl (.int .u8)) p0, .dv (.pair (.int .i64) (.pair (.sl (.arr 2 (.int .i64))) (.unit))) o1, .dv (.int .i64) most2] [] dec27 = m27 N p0 o1 most2 := by rw [wm27]; simp only [m27, ql27a]
theorem ok27 (a : (List Int) → (Int × List (List Int) × Unit) → Int → Option (List UInt8)) (h : ∀ p0 o1 most2 r, a p0 o1 most2 = some r → (∃ N, m27 N p0 o1 most2 = some r)) : FnOk Tryd.prog 27 (F27 a) := by
 intro args Of x hx
 simp only [F27] at hx
 split at hx
 ·rename_i p0 o1 most2
  obtain ⟨N, hN⟩ := h _ _ _ _ hx
  refine lifted (L := []) (rc := nrc) (fz := nfz) (fn := Tryd.f27) (by kernel_rfl) (by kernel_rfl) (by kernel_rfl) (by kernel_rfl) rfl ?_ ((k27 N _ _ _).trans hN) ?_
  ·intro p hp; cases hp
  ·intro l o hd
   simp only [dec27] at hd
   split at hd
   ·obtain rfl := Option.some.inj hd; exact ⟨rfl, rfl⟩
   ·cases hd
 ·cases hx
end Go.Proofs.YtmpbbkldopfkpaaDoor
