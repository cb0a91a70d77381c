import Derived.Test.YtmpbbkldopfkpaaDoorQFI
namespace Go.Proofs.YtmpbbkldopfkpaaDoor
open Go.RowKit
set_option linter.unusedVariables false
def E33 : Env := mkE TI TY [] nrc nfz
noncomputable def c33 : Code := bodyOf Tryd.f33
def nm33_0 : Norm := ⟨[0, 1, 2, 9], [9], [], []⟩
def lv33 : Nat → Option Norm := norms [(2, nm33_0)]
def en33 : End := ⟨[], ⟨[23], [], [], []⟩⟩
def dec33 (l : List TV) (o : List (Nat × TO)) : Option (Int) := match l, o with | [.dv (.int .i64) x0], [] => some (x0) | _, _ => none
def Sl33a (t0 : List UInt8) (cx1 : Int) (n2_a : Int) (o9_a : List (Int × Int)) : TS := ⟨slots 23 [(0, .dv (.str) t0), (1, .dv (.int .u8) cx1), (2, .dv (.int .i64) n2_a), (9, .row 9)], [(9, .sit o9_a)]⟩
noncomputable def K33_0 (N : Nat) : Kont (Int) := kont (E33) lv33 N c33 [1, 0, 1, 0] (fin TI en33 (resOf Tryd.f33) dec33)
noncomputable def R33_0 (N : Nat) (m : Nat) : TS → Option (Int) := loopK (den (E33) lv33 N (sub c33 [1, 0, 1, 0, 0])) (TS.norm nm33_0) (K33_0 N) m
def l33a (N : Nat) (t0 : List UInt8) (cx1 : Int) : Nat → Int → (List (Int × Int)) → Option (Int)
  | 0, _, _ => none
  | n + 1, n2_a, o9_a => sitK o9_a (some (-1 : Int)) (fun h1 => fun g2 =>
      chk (decide (0 ≤ h1.1 ∧ h1.1 < (t0.length : Int))) (cond ((((t0.getD h1.1.toNat 0).toNat : Nat) : Int) == cx1) (cond (n2_a == (0 : Int)) (some h1.1)
      ((l33a N t0 cx1 n (w64 (n2_a - (1 : Int))) g2)))
      ((l33a N t0 cx1 n n2_a g2))))
theorem wl33a (N : Nat) (t0 : List UInt8) (cx1 : Int) (m : Nat) (n2_a : Int) (o9_a : List (Int × Int)) : R33_0 N (m + 1) (Sl33a t0 cx1 n2_a o9_a) = sitK o9_a (some (-1 : Int)) (fun h1 => fun g2 =>
      chk (decide (0 ≤ h1.1 ∧ h1.1 < (t0.length : Int))) (cond ((((t0.getD h1.1.toNat 0).toNat : Nat) : Int) == cx1) (cond (n2_a == (0 : Int)) (some h1.1)
      ((R33_0 N m (Sl33a t0 cx1 (w64 (n2_a - (1 : Int))) g2))))
      ((R33_0 N m (Sl33a t0 cx1 n2_a g2))))) := by kernel_rfl
theorem ql33a (N : Nat) (t0 : List UInt8) (cx1 : Int) : ∀ (m : Nat) (n2_a : Int) (o9_a : List (Int × Int)), R33_0 N m (Sl33a t0 cx1 n2_a o9_a) = l33a N t0 cx1 m n2_a o9_a
        | 0, _, _ => rfl
        | m + 1, n2_a, o9_a => by rw [wl33a]; simp only [l33a, ql33a N t0 cx1 m]
def m33 (N : Nat) (t0 : List UInt8) (cx1 : Int) (n2 : Int) : Option (Int) :=
      chk (asc t0) ((l33a N t0 cx1 N n2 (sitL 0 t0)))
theorem wm33 (N : Nat) (t0 : List UInt8) (cx1 : Int) (n2 : Int) : callF (E33) lv33 N en33 c33 (resOf Tryd.f33) 20 [.dv (.str) t0, .dv (.int .u8) cx1, .dv (.int .i64) n2] [] dec33 = chk (asc t0) ((R33_0 N N (Sl33a t0 cx1 n2 (sitL 0 t0)))) := by kernel_rfl
theorem k33 (N : Nat) (t0 : List UInt8) (cx1 : Int) (n2 : Int) : callF (E33) lv33 N en33 c33 (resOf Tryd.f33) 20 [.dv (.str) t0, .dv (.int .u8) cx1, .dv (.int .i64) n2] [] dec33 = m33 N t0 cx1 n2 := by rw [wm33]; simp only [m33, ql33a]
theorem ok33 (a : (List UInt8) → Int → Int → Option (Int)) (h : ∀ t0 cx1 n2 r, a t0 cx1 n2 = some r → (∃ N, m33 N t0 cx1 n2 = some r)) : FnOk Tryd.prog 33 (F33 a) := by
  intro args Of x hx
  simp only [F33] at hx
  split at hx
  · rename_i t0 cx1 n2
    obtain ⟨N, hN⟩ := h _ _ _ _ hx
    refine lifted (L := []) (rc := nrc) (fz := nfz) (fn := Tryd.f33) (by kernel_rfl) (by kernel_rfl) (by kernel_rfl) (by kernel_rfl) rfl ?_ ((k33 N _ _ _).trans hN) ?_
    · intro p hp; cases hp
    · intro l o hd
      simp only [dec33] at hd
      split at hd
      · obtain rfl := Option.some.inj hd; exact ⟨rfl, rfl⟩
      · cases hd
  · cases hx
end Go.Proofs.YtmpbbkldopfkpaaDoor
