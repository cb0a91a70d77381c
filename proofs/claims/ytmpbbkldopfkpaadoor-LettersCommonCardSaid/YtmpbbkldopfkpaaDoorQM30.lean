import Derived.Test.YtmpbbkldopfkpaaDoorQFI
namespace Go.Proofs.YtmpbbkldopfkpaaDoor
open Go.RowKit
set_option linter.unusedVariables false
abbrev Q30T0 := Int × List (List Int) × Unit
def E30 : Env := mkE TI TY [] nrc nfz
noncomputable def c30 : Code := bodyOf Tryd.f30
def nm30_0 : Norm := ⟨[1, 2, 12, 13, 14], [], [], []⟩
def lv30 : Nat → Option Norm := norms [(2, nm30_0)]
def en30 : End := ⟨[], ⟨[45], [], [], []⟩⟩
def dec30 (l : List TV) (o : List (Nat × TO)) : Option (Bool) := match l, o with | [.dv (.bool) x0], [] => some (x0) | _, _ => none
def Sl30a (o0 : Q30T0) (x1 : Int) (y2 : Int) (t14_a : Int) : TS := ⟨slots 45 [(1, .dv (.int .u8) x1), (2, .dv (.int .u8) y2), (12, .dv (.sl (.arr 2 (.int .i64))) o0.2.1), (13, .dv (.int .i64) (o0.2.1.length : Int)), (14, .dv (.int .i64) t14_a)], []⟩
noncomputable def K30_0 (N : Nat) : Kont (Bool) := kont (E30) lv30 N c30 [1, 0, 1, 0] (fin TI en30 (resOf Tryd.f30) dec30)
noncomputable def R30_0 (N : Nat) (m : Nat) : TS → Option (Bool) := loopK (den (E30) lv30 N (sub c30 [1, 0, 1, 0, 0])) (TS.norm nm30_0) (K30_0 N) m
def l30a (N : Nat) (o0 : Q30T0) (x1 : Int) (y2 : Int) : Nat → Int → Option (Bool)
 | 0, _ => none
 | n + 1, t14_a => cond (decide (t14_a < (o0.2.1.length : Int))) (chk (decide (0 ≤ t14_a ∧ t14_a < (o0.2.1.length : Int))) (cond ((IntKind.wrap .u8 (w64 ((97 : Int) + ((o0.2.1.getD t14_a.toNat ([(0 : Int), (0 : Int)] : List Int)).getD 0 (0 : Int))))) == x1) (cond ((IntKind.wrap .u8 (w64 ((97 : Int) + ((o0.2.1.getD t14_a.toNat ([(0 : Int), (0 : Int)] : List Int)).getD 1 (0 : Int))))) == y2) (some true)
   (cond ((IntKind.wrap .u8 (w64 ((97 : Int) + ((o0.2.1.getD t14_a.toNat ([(0 : Int), (0 : Int)] : List Int)).getD 0 (0 : Int))))) == y2) (cond ((IntKind.wrap .u8 (w64 ((97 : Int) + ((o0.2.1.getD t14_a.toNat ([(0 : Int), (0 : Int)] : List Int)).getD 1 (0 : Int))))) == x1) (some true)
   ((l30a N o0 x1 y2 n (w64 (t14_a + (1 : Int))))))
   ((l30a N o0 x1 y2 n (w64 (t14_a + (1 : Int)))))))
   (cond ((IntKind.wrap .u8 (w64 ((97 : Int) + ((o0.2.1.getD t14_a.toNat ([(0 : Int), (0 : Int)] : List Int)).getD 0 (0 : Int))))) == y2) (cond ((IntKind.wrap .u8 (w64 ((97 : Int) + ((o0.2.1.getD t14_a.toNat ([(0 : Int), (0 : Int)] : List Int)).getD 1 (0 : Int))))) == x1) (some true)
   ((l30a N o0 x1 y2 n (w64 (t14_a + (1 : Int))))))
   ((l30a N o0 x1 y2 n (w64 (t14_a + (1 : Int))))))))
   (some false)
theorem wl30a (N : Nat) (o0 : Q30T0) (x1 : Int) (y2 : Int) (m : Nat) (t14_a : Int) : R30_0 N (m + 1) (Sl30a o0 x1 y2 t14_a) = cond (decide (t14_a < (o0.2.1.length : Int))) (chk (decide (0 ≤ t14_a ∧ t14_a < (o0.2.1.length : Int))) (cond ((IntKind.wrap .u8 (w64 ((97 : Int) + ((o0.2.1.getD t14_a.toNat ([(0 : Int), (0 : Int)] : List Int)).getD 0 (0 : Int))))) == x1) (cond ((IntKind.wrap .u8 (w64 ((97 : Int) + ((o0.2.1.getD t14_a.toNat ([(0 : Int), (0 : Int)] : List Int)).getD 1 (0 : Int))))) == y2) (some true)
   (cond ((IntKind.wrap .u8 (w64 ((97 : Int) + ((o0.2.1.getD t14_a.toNat ([(0 : Int), (0 : Int)] : List Int)).getD 0 (0 : Int))))) == y2) (cond ((IntKind.wrap .u8 (w64 ((97 : Int) + ((o0.2.1.getD t14_a.toNat ([(0 : Int), (0 : Int)] : List Int)).getD 1 (0 : Int))))) == x1) (some true)
   ((R30_0 N m (Sl30a o0 x1 y2 (w64 (t14_a + (1 : Int)))))))
   ((R30_0 N m (Sl30a o0 x1 y2 (w64 (t14_a + (1 : Int))))))))
   (cond ((IntKind.wrap .u8 (w64 ((97 : Int) + ((o0.2.1.getD t14_a.toNat ([(0 : Int), (0 : Int)] : List Int)).getD 0 (0 : Int))))) == y2) (cond ((IntKind.wrap .u8 (w64 ((97 : Int) + ((o0.2.1.getD t14_a.toNat ([(0 : Int), (0 : Int)] : List Int)).getD 1 (0 : Int))))) == x1) (some true)
   ((R30_0 N m (Sl30a o0 x1 y2 (w64 (t14_a + (1 : Int)))))))
   ((R30_0 N m (Sl30a o0 x1 y2 (w64 (t14_a + (1 : Int)))))))))
   (some false) := by kernel_rfl
theorem ql30a (N : Nat) (o0 : Q30T0) (x1 : Int) (y2 : Int) : ∀ (m : Nat) (t14_a : Int), R30_0 N m (Sl30a o0 x1 y2 t14_a) = l30a N o0 x1 y2 m t14_a
        | 0, _ => rfl
        | m + 1, t14_a => by rw [wl30a]; simp only [l30a, ql30a N o0 x1 y2 m]
def m30 (N : Nat) (o0 : Q30T0) (x1 : Int) (y2 : Int) : Option (Bool) :=
   (l30a N o0 x1 y2 N (0 : Int))
theorem wm30 (N : Nat) (o0 : Q30T0) (x1 : Int) (y2 : Int) : callF (E30) lv30 N en30 c30 (resOf Tryd.f30) 42 [.dv (.pair (.int .i64) (.pair (.sl (.arr 2 (.int .i64))) (.unit))) o0, .dv (.int .u8) x1, .dv (.int .u8) y2] [] dec30 = (R30_0 N N (Sl30a o0 x1 y2 (0 : Int))) := by kernel_rfl
theorem k30 (N : Nat) (o0 : Q30T0) (x1 : Int) (y2 : Int) : callF (E30) lv30 N en30 c30 (resOf Tryd.f30) 42 [.dv (.pair (.int .i64) (.pair (.sl (.arr 2 (.int .i64))) (.unit))) o0, .dv (.int .u8) x1, .dv (.int .u8) y2] [] dec30 = m30 N o0 x1 y2 := by rw [wm30]; simp only [m30, ql30a]
theorem ok30 (a : (Int × List (List Int) × Unit) → Int → Int → Option (Bool)) (h : ∀ o0 x1 y2 r, a o0 x1 y2 = some r → (∃ N, m30 N o0 x1 y2 = some r)) : FnOk Tryd.prog 30 (F30 a) := by
 intro args Of x hx
 simp only [F30] at hx
 split at hx
 ·rename_i o0 x1 y2
  obtain ⟨N, hN⟩ := h _ _ _ _ hx
  refine lifted (L := []) (rc := nrc) (fz := nfz) (fn := Tryd.f30) (by kernel_rfl) (by kernel_rfl) (by kernel_rfl) (by kernel_rfl) rfl ?_ ((k30 N _ _ _).trans hN) ?_
  ·intro p hp; cases hp
  ·intro l o hd
   simp only [dec30] at hd
   split at hd
   ·obtain rfl := Option.some.inj hd; exact ⟨rfl, rfl⟩
   ·cases hd
 ·cases hx
end Go.Proofs.YtmpbbkldopfkpaaDoor
