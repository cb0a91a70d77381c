import Derived.Test.YtmpbbkldopfkpaaDoorQFI
namespace Go.Proofs.YtmpbbkldopfkpaaDoor
open Go.RowKit
set_option linter.unusedVariables false
abbrev Q67T0 := Int × List (List Int) × Unit
def E67 : Env := mkE TI TY [] nrc nfz
noncomputable def c67 : Code := bodyOf Tryd.f67
def nm67_0 : Norm := ⟨[1, 2, 3, 4, 9], [4], [], []⟩
def lv67 : Nat → Option Norm := norms [(2, nm67_0)]
def en67 : End := ⟨[], ⟨[47], [], [], []⟩⟩
def dec67 (l : List TV) (o : List (Nat × TO)) : Option (Bool) := match l, o with | [.dv (.bool) x0], [] => some (x0) | _, _ => none
def Sl67a (o0 : Q67T0) (pairs1 : Int) (x2 : Int) (y3 : Int) (i9_a : Int) : TS := ⟨slots 47 [(1, .dv (.int .i64) pairs1), (2, .dv (.int .i64) x2), (3, .dv (.int .i64) y3), (4, .ptr 4 0 []), (9, .dv (.int .i64) i9_a)], [(4, .row (.pair (.int .i64) (.pair (.sl (.arr 2 (.int .i64))) (.unit))) ([o0] : List (Int × List (List Int) × Unit)))]⟩
noncomputable def K67_0 (N : Nat) : Kont (Bool) := kont (E67) lv67 N c67 [1, 0, 1, 0] (fin TI en67 (resOf Tryd.f67) dec67)
noncomputable def R67_0 (N : Nat) (m : Nat) : TS → Option (Bool) := loopK (den (E67) lv67 N (sub c67 [1, 0, 1, 0, 0])) (TS.norm nm67_0) (K67_0 N) m
def l67a (N : Nat) (o0 : Q67T0) (pairs1 : Int) (x2 : Int) (y3 : Int) : Nat → Int → Option (Bool)
 | 0, _ => none
 | n + 1, i9_a => cond (decide (i9_a < pairs1)) (chk (decide (0 ≤ i9_a ∧ i9_a < (o0.2.1.length : Int))) (chk (decide (0 ≤ i9_a ∧ i9_a < (o0.2.1.length : Int))) (cond (((o0.2.1.getD i9_a.toNat ([(0 : Int), (0 : Int)] : List Int)).getD 0 (0 : Int)) == x2) (cond (((o0.2.1.getD i9_a.toNat ([(0 : Int), (0 : Int)] : List Int)).getD 1 (0 : Int)) == y3) (some true)
   (cond (((o0.2.1.getD i9_a.toNat ([(0 : Int), (0 : Int)] : List Int)).getD 0 (0 : Int)) == y3) (cond (((o0.2.1.getD i9_a.toNat ([(0 : Int), (0 : Int)] : List Int)).getD 1 (0 : Int)) == x2) (some true)
   ((l67a N o0 pairs1 x2 y3 n (w64 (i9_a + (1 : Int))))))
   ((l67a N o0 pairs1 x2 y3 n (w64 (i9_a + (1 : Int)))))))
   (cond (((o0.2.1.getD i9_a.toNat ([(0 : Int), (0 : Int)] : List Int)).getD 0 (0 : Int)) == y3) (cond (((o0.2.1.getD i9_a.toNat ([(0 : Int), (0 : Int)] : List Int)).getD 1 (0 : Int)) == x2) (some true)
   ((l67a N o0 pairs1 x2 y3 n (w64 (i9_a + (1 : Int))))))
   ((l67a N o0 pairs1 x2 y3 n (w64 (i9_a + (1 : Int)))))))))
   (some false)
theorem wl67a (N : Nat) (o0 : Q67T0) (pairs1 : Int) (x2 : Int) (y3 : Int) (m : Nat) (i9_a : Int) : R67_0 N (m + 1) (Sl67a o0 pairs1 x2 y3 i9_a) = cond (decide (i9_a < pairs1)) (chk (decide (0 ≤ i9_a ∧ i9_a < (o0.2.1.length : Int))) (chk (decide (0 ≤ i9_a ∧ i9_a < (o0.2.1.length : Int))) (cond (((o0.2.1.getD i9_a.toNat ([(0 : Int), (0 : Int)] : List Int)).getD 0 (0 : Int)) == x2) (cond (((o0.2.1.getD i9_a.toNat ([(0 : Int), (0 : Int)] : List Int)).getD 1 (0 : Int)) == y3) (some true)
   (cond (((o0.2.1.getD i9_a.toNat ([(0 : Int), (0 : Int)] : List Int)).getD 0 (0 : Int)) == y3) (cond (((o0.2.1.getD i9_a.toNat ([(0 : Int), (0 : Int)] : List Int)).getD 1 (0 : Int)) == x2) (some true)
   ((R67_0 N m (Sl67a o0 pairs1 x2 y3 (w64 (i9_a + (1 : Int)))))))
   ((R67_0 N m (Sl67a o0 pairs1 x2 y3 (w64 (i9_a + (1 : Int))))))))
   (cond (((o0.2.1.getD i9_a.toNat ([(0 : Int), (0 : Int)] : List Int)).getD 0 (0 : Int)) == y3) (cond (((o0.2.1.getD i9_a.toNat ([(0 : Int), (0 : Int)] : List Int)).getD 1 (0 : Int)) == x2) (some true)
   ((R67_0 N m (Sl67a o0 pairs1 x2 y3 (w64 (i9_a + (1 : Int)))))))
   ((R67_0 N m (Sl67a o0 pairs1 x2 y3 (w64 (i9_a + (1 : Int))))))))))
   (some false) := by kernel_rfl
theorem ql67a (N : Nat) (o0 : Q67T0) (pairs1 : Int) (x2 : Int) (y3 : Int) : ∀ (m : Nat) (i9_a : Int), R67_0 N m (Sl67a o0 pairs1 x2 y3 i9_a) = l67a N o0 pairs1 x2 y3 m i9_a
        | 0, _ => rfl
        | m + 1, i9_a => by rw [wl67a]; simp only [l67a, ql67a N o0 pairs1 x2 y3 m]
def m67 (N : Nat) (o0 : Q67T0) (pairs1 : Int) (x2 : Int) (y3 : Int) : Option (Bool) :=
   (l67a N o0 pairs1 x2 y3 N (0 : Int))
theorem wm67 (N : Nat) (o0 : Q67T0) (pairs1 : Int) (x2 : Int) (y3 : Int) : callF (E67) lv67 N en67 c67 (resOf Tryd.f67) 43 [.dv (.pair (.int .i64) (.pair (.sl (.arr 2 (.int .i64))) (.unit))) o0, .dv (.int .i64) pairs1, .dv (.int .i64) x2, .dv (.int .i64) y3] [] dec67 = (R67_0 N N (Sl67a o0 pairs1 x2 y3 (0 : Int))) := by kernel_rfl
theorem k67 (N : Nat) (o0 : Q67T0) (pairs1 : Int) (x2 : Int) (y3 : Int) : callF (E67) lv67 N en67 c67 (resOf Tryd.f67) 43 [.dv (.pair (.int .i64) (.pair (.sl (.arr 2 (.int .i64))) (.unit))) o0, .dv (.int .i64) pairs1, .dv (.int .i64) x2, .dv (.int .i64) y3] [] dec67 = m67 N o0 pairs1 x2 y3 := by rw [wm67]; simp only [m67, ql67a]
theorem ok67 (a : (Int × List (List Int) × Unit) → Int → Int → Int → Option (Bool)) (h : ∀ o0 pairs1 x2 y3 r, a o0 pairs1 x2 y3 = some r → (∃ N, m67 N o0 pairs1 x2 y3 = some r)) : FnOk Tryd.prog 67 (F67 a) := by
 intro args Of x hx
 simp only [F67] at hx
 split at hx
 ·rename_i o0 pairs1 x2 y3
  obtain ⟨N, hN⟩ := h _ _ _ _ _ hx
  refine lifted (L := []) (rc := nrc) (fz := nfz) (fn := Tryd.f67) (by kernel_rfl) (by kernel_rfl) (by kernel_rfl) (by kernel_rfl) rfl ?_ ((k67 N _ _ _ _).trans hN) ?_
  ·intro p hp; cases hp
  ·intro l o hd
   simp only [dec67] at hd
   split at hd
   ·obtain rfl := Option.some.inj hd; exact ⟨rfl, rfl⟩
   ·cases hd
 ·cases hx
end Go.Proofs.YtmpbbkldopfkpaaDoor
