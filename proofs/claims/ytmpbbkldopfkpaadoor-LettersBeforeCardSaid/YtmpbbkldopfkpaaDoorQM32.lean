import Derived.Test.YtmpbbkldopfkpaaDoorQFI
namespace Go.Proofs.YtmpbbkldopfkpaaDoor
open Go.RowKit
set_option linter.unusedVariables false
def E32 : Env := mkE TI TY [] nrc nfz
noncomputable def c32 : Code := bodyOf Tryd.f32
def nm32_0 : Norm := ⟨[0, 1, 2, 7, 10], [10], [], []⟩
def lv32 : Nat → Option Norm := norms [(3, nm32_0)]
def en32 : End := ⟨[], ⟨[33], [], [], []⟩⟩
def dec32 (l : List TV) (o : List (Nat × TO)) : Option (List UInt8) := match l, o with | [.dv (.str) x0], [] => some (x0) | _, _ => none
def Sl32a (s0 : List UInt8) (x1 : Int) (y2 : Int) (out7_a : List UInt8) (o10_a : List (Int × Int)) : TS := ⟨slots 33 [(0, .dv (.str) s0), (1, .dv (.int .u8) x1), (2, .dv (.int .u8) y2), (7, .dv (.str) out7_a), (10, .row 10)], [(10, .sit o10_a)]⟩
noncomputable def K32_0 (N : Nat) : Kont (List UInt8) := kont (E32) lv32 N c32 [1, 1, 0, 1, 0] (fin TI en32 (resOf Tryd.f32) dec32)
noncomputable def R32_0 (N : Nat) (m : Nat) : TS → Option (List UInt8) := loopK (den (E32) lv32 N (sub c32 [1, 1, 0, 1, 0, 0])) (TS.norm nm32_0) (K32_0 N) m
def l32a (N : Nat) (s0 : List UInt8) (x1 : Int) (y2 : Int) : Nat → (List UInt8) → (List (Int × Int)) → Option (List UInt8)
  | 0, _, _ => none
  | n + 1, out7_a, o10_a => sitK o10_a (some out7_a) (fun h1 => fun g2 =>
      chk (decide (0 ≤ h1.1 ∧ h1.1 < (s0.length : Int))) (cond ((((s0.getD h1.1.toNat 0).toNat : Nat) : Int) == x1) (chk (decide (0 ≤ h1.1 ∧ h1.1 ≤ (s0.length : Int))) (chk (decide (0 ≤ (1 : Int) ∧ (1 : Int) ≤ ((s0.drop h1.1.toNat).length : Int))) (chk (decide (out7_a.length + ((s0.drop h1.1.toNat).take 1).length ≤ 9223372036854775807)) ((l32a N s0 x1 y2 n (out7_a ++ ((s0.drop h1.1.toNat).take 1)) g2)))))
      (chk (decide (0 ≤ h1.1 ∧ h1.1 < (s0.length : Int))) (cond ((((s0.getD h1.1.toNat 0).toNat : Nat) : Int) == y2) (chk (decide (0 ≤ h1.1 ∧ h1.1 ≤ (s0.length : Int))) (chk (decide (0 ≤ (1 : Int) ∧ (1 : Int) ≤ ((s0.drop h1.1.toNat).length : Int))) (chk (decide (out7_a.length + ((s0.drop h1.1.toNat).take 1).length ≤ 9223372036854775807)) ((l32a N s0 x1 y2 n (out7_a ++ ((s0.drop h1.1.toNat).take 1)) g2)))))
      ((l32a N s0 x1 y2 n out7_a g2))))))
theorem wl32a (N : Nat) (s0 : List UInt8) (x1 : Int) (y2 : Int) (m : Nat) (out7_a : List UInt8) (o10_a : List (Int × Int)) : R32_0 N (m + 1) (Sl32a s0 x1 y2 out7_a o10_a) = sitK o10_a (some out7_a) (fun h1 => fun g2 =>
      chk (decide (0 ≤ h1.1 ∧ h1.1 < (s0.length : Int))) (cond ((((s0.getD h1.1.toNat 0).toNat : Nat) : Int) == x1) (chk (decide (0 ≤ h1.1 ∧ h1.1 ≤ (s0.length : Int))) (chk (decide (0 ≤ (1 : Int) ∧ (1 : Int) ≤ ((s0.drop h1.1.toNat).length : Int))) (chk (decide (out7_a.length + ((s0.drop h1.1.toNat).take 1).length ≤ 9223372036854775807)) ((R32_0 N m (Sl32a s0 x1 y2 (out7_a ++ ((s0.drop h1.1.toNat).take 1)) g2))))))
      (chk (decide (0 ≤ h1.1 ∧ h1.1 < (s0.length : Int))) (cond ((((s0.getD h1.1.toNat 0).toNat : Nat) : Int) == y2) (chk (decide (0 ≤ h1.1 ∧ h1.1 ≤ (s0.length : Int))) (chk (decide (0 ≤ (1 : Int) ∧ (1 : Int) ≤ ((s0.drop h1.1.toNat).length : Int))) (chk (decide (out7_a.length + ((s0.drop h1.1.toNat).take 1).length ≤ 9223372036854775807)) ((R32_0 N m (Sl32a s0 x1 y2 (out7_a ++ ((s0.drop h1.1.toNat).take 1)) g2))))))
      ((R32_0 N m (Sl32a s0 x1 y2 out7_a g2))))))) := by kernel_rfl
theorem ql32a (N : Nat) (s0 : List UInt8) (x1 : Int) (y2 : Int) : ∀ (m : Nat) (out7_a : List UInt8) (o10_a : List (Int × Int)), R32_0 N m (Sl32a s0 x1 y2 out7_a o10_a) = l32a N s0 x1 y2 m out7_a o10_a
        | 0, _, _ => rfl
        | m + 1, out7_a, o10_a => by rw [wl32a]; simp only [l32a, ql32a N s0 x1 y2 m]
def m32 (N : Nat) (s0 : List UInt8) (x1 : Int) (y2 : Int) : Option (List UInt8) :=
      chk (asc s0) ((l32a N s0 x1 y2 N ([] : List UInt8) (sitL 0 s0)))
theorem wm32 (N : Nat) (s0 : List UInt8) (x1 : Int) (y2 : Int) : callF (E32) lv32 N en32 c32 (resOf Tryd.f32) 30 [.dv (.str) s0, .dv (.int .u8) x1, .dv (.int .u8) y2] [] dec32 = chk (asc s0) ((R32_0 N N (Sl32a s0 x1 y2 ([] : List UInt8) (sitL 0 s0)))) := by kernel_rfl
theorem k32 (N : Nat) (s0 : List UInt8) (x1 : Int) (y2 : Int) : callF (E32) lv32 N en32 c32 (resOf Tryd.f32) 30 [.dv (.str) s0, .dv (.int .u8) x1, .dv (.int .u8) y2] [] dec32 = m32 N s0 x1 y2 := by rw [wm32]; simp only [m32, ql32a]
theorem ok32 (a : (List UInt8) → Int → Int → Option (List UInt8)) (h : ∀ s0 x1 y2 r, a s0 x1 y2 = some r → (∃ N, m32 N s0 x1 y2 = some r)) : FnOk Tryd.prog 32 (F32 a) := by
  intro args Of x hx
  simp only [F32] at hx
  split at hx
  · rename_i s0 x1 y2
    obtain ⟨N, hN⟩ := h _ _ _ _ hx
    refine lifted (L := []) (rc := nrc) (fz := nfz) (fn := Tryd.f32) (by kernel_rfl) (by kernel_rfl) (by kernel_rfl) (by kernel_rfl) rfl ?_ ((k32 N _ _ _).trans hN) ?_
    · intro p hp; cases hp
    · intro l o hd
      simp only [dec32] at hd
      split at hd
      · obtain rfl := Option.some.inj hd; exact ⟨rfl, rfl⟩
      · cases hd
  · cases hx
end Go.Proofs.YtmpbbkldopfkpaaDoor
