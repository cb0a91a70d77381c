import Derived.Test.YtbblnbolabpfmaaQFI
namespace Go.Proofs.Ytbblnbolabpfmaa
open Go.RowKit
set_option linter.unusedVariables false
def E44c : Env := mkE TI TY [] nrc nfz
noncomputable def c44c : Code := bodyOf Try.f44
def nm44c_0 : Norm := ⟨[0, 2, 5, 9, 10, 11], [], [], []⟩
def lv44c : Nat → Option Norm := norms [(3, nm44c_0)]
def en44c : End := ⟨[], ⟨[29], [], [], []⟩⟩
def dec44c (l : List TV) (o : List (Nat × TO)) : Option (Int) := match l, o with | [.dv (.int .i64) x0], [] => some (x0) | _, _ => none
noncomputable def K44c_0 (N : Nat) : Kont (Int) := kont (E44c) lv44c N c44c [1, 1, 0, 1, 0] (fin TI en44c (resOf Try.f44) dec44c)
noncomputable def R44c_0 (N : Nat) (m : Nat) : TS → Option (Int) := loopK (den (E44c) lv44c N (sub c44c [1, 1, 0, 1, 0, 0])) (TS.norm nm44c_0) (K44c_0 N) m
def Sl44ca (day0 : Int) (p1 : List (Int × Int × Unit)) (p2 : Int) (n5_a : Int) (t11_a : Int) : TS := ⟨slots 29 [(0, .dv (.int .i64) day0), (2, .el (.int .i64) p2 []), (5, .dv (.int .i64) n5_a), (9, .dv (.sl (.pair (.int .i64) (.pair (.int .i64) (.unit)))) p1), (10, .dv (.int .i64) (p1.length : Int)), (11, .dv (.int .i64) t11_a)], []⟩
def l44ca (N : Nat) (day0 : Int) (p1 : List (Int × Int × Unit)) (p2 : Int) : Nat → Int → Int → Option (Int)
  | 0, _, _ => none
  | n + 1, n5_a, t11_a => cond (decide (t11_a < (p1.length : Int))) (chk (decide (0 ≤ t11_a ∧ t11_a < (p1.length : Int))) (cond (decide ((((p1.getD t11_a.toNat ((0 : Int), ((0 : Int), ()))).2).1) ≥ p2)) (cond (decide (((p1.getD t11_a.toNat ((0 : Int), ((0 : Int), ()))).1) > day0)) ((l44ca N day0 p1 p2 n (w64 (n5_a + (1 : Int))) (w64 (t11_a + (1 : Int)))))
      ((l44ca N day0 p1 p2 n n5_a (w64 (t11_a + (1 : Int))))))
      ((l44ca N day0 p1 p2 n n5_a (w64 (t11_a + (1 : Int)))))))
      (some n5_a)
theorem wl44ca (N : Nat) (day0 : Int) (p1 : List (Int × Int × Unit)) (p2 : Int) (m : Nat) (n5_a : Int) (t11_a : Int) : R44c_0 N (m + 1) (Sl44ca day0 p1 p2 n5_a t11_a) = cond (decide (t11_a < (p1.length : Int))) (chk (decide (0 ≤ t11_a ∧ t11_a < (p1.length : Int))) (cond (decide ((((p1.getD t11_a.toNat ((0 : Int), ((0 : Int), ()))).2).1) ≥ p2)) (cond (decide (((p1.getD t11_a.toNat ((0 : Int), ((0 : Int), ()))).1) > day0)) ((R44c_0 N m (Sl44ca day0 p1 p2 (w64 (n5_a + (1 : Int))) (w64 (t11_a + (1 : Int))))))
      ((R44c_0 N m (Sl44ca day0 p1 p2 n5_a (w64 (t11_a + (1 : Int)))))))
      ((R44c_0 N m (Sl44ca day0 p1 p2 n5_a (w64 (t11_a + (1 : Int))))))))
      (some n5_a) := by kernel_rfl
theorem ql44ca (N : Nat) (day0 : Int) (p1 : List (Int × Int × Unit)) (p2 : Int) : ∀ (m : Nat) (n5_a : Int) (t11_a : Int), R44c_0 N m (Sl44ca day0 p1 p2 n5_a t11_a) = l44ca N day0 p1 p2 m n5_a t11_a
        | 0, _, _ => rfl
        | m + 1, n5_a, t11_a => by rw [wl44ca]; simp only [l44ca, ql44ca N day0 p1 p2 m]
def m44c (N : Nat) (day0 : Int) (p1 : List (Int × Int × Unit)) (p2 : Int) : Option (Int) :=
      (l44ca N day0 p1 p2 N day0 (0 : Int))
theorem wm44c (N : Nat) (day0 : Int) (p1 : List (Int × Int × Unit)) (p2 : Int) : callF (E44c) lv44c N en44c c44c (resOf Try.f44) 26 [.dv (.int .i64) day0, .el (.sl (.pair (.int .i64) (.pair (.int .i64) (.unit)))) p1 [], .el (.int .i64) p2 []] [] dec44c = (R44c_0 N N (Sl44ca day0 p1 p2 day0 (0 : Int))) := by kernel_rfl
theorem k44c (N : Nat) (day0 : Int) (p1 : List (Int × Int × Unit)) (p2 : Int) : callF (E44c) lv44c N en44c c44c (resOf Try.f44) 26 [.dv (.int .i64) day0, .el (.sl (.pair (.int .i64) (.pair (.int .i64) (.unit)))) p1 [], .el (.int .i64) p2 []] [] dec44c = m44c N day0 p1 p2 := by rw [wm44c]; simp only [m44c, ql44ca]
theorem ok44c (a : Int → (List (Int × Int × Unit)) → Int → Option (Int)) (h : ∀ day0 p1 p2 r, a day0 p1 p2 = some r → (∃ N, m44c N day0 p1 p2 = some r)) : FnOk Try.prog 44 (F44c a) := by
  intro args Of x hx
  simp only [F44c] at hx
  split at hx
  · rename_i day0 p1 p2
    obtain ⟨N, hN⟩ := h _ _ _ _ hx
    refine lifted (L := []) (rc := nrc) (fz := nfz) (fn := Try.f44) (by kernel_rfl) (by kernel_rfl) (by kernel_rfl) (by kernel_rfl) rfl ?_ ((k44c N _ _ _).trans hN) ?_
    · intro p hp; cases hp
    · intro l o hd
      simp only [dec44c] at hd
      split at hd
      · obtain rfl := Option.some.inj hd; exact ⟨rfl, rfl⟩
      · cases hd
  · cases hx
end Go.Proofs.Ytbblnbolabpfmaa
