import Derived.Test.YtmpbbkldopfkpaaDoorQFI
namespace Go.Proofs.YtmpbbkldopfkpaaDoor
open Go.RowKit
set_option linter.unusedVariables false
def E23 (a45 : (Int × List (List Int) × Unit) → (List UInt8) → Option (List UInt8)) (a54 : (Int × List (List Int) × Unit) → (List UInt8) → (List UInt8) → Option (Int)) (a55 : (Int × List (List Int) × Unit) → (List UInt8) → Int → Option (Int)) : Env := mkE TI TY [(45, F45 a45), (54, F54 a54), (55, F55 a55)] nrc nfz
noncomputable def c23 : Code := bodyOf Tryd.f23
def nm23_0 : Norm := ⟨[1, 2, 3, 9], [3], [], []⟩
def lv23 : Nat → Option Norm := norms [(5, nm23_0)]
def en23 : End := ⟨[], ⟨[43, 44], [], [], []⟩⟩
def dec23 (l : List TV) (o : List (Nat × TO)) : Option (List UInt8 × Int) := match l, o with | [.dv (.str) x0, .dv (.int .i64) x1], [] => some (x0, x1) | _, _ => none
def Sl23a (o0 : Int × List (List Int) × Unit) (ax1 : List UInt8) (b2_a : List UInt8) (i9_a : Int) : TS := ⟨slots 43 [(1, .dv (.str) ax1), (2, .dv (.str) b2_a), (3, .ptr 3 0 []), (9, .dv (.int .i64) i9_a)], [(3, .row (.pair (.int .i64) (.pair (.sl (.arr 2 (.int .i64))) (.unit))) ([o0] : List (Int × List (List Int) × Unit)))]⟩
noncomputable def K23_0 (a45 : (Int × List (List Int) × Unit) → (List UInt8) → Option (List UInt8)) (a54 : (Int × List (List Int) × Unit) → (List UInt8) → (List UInt8) → Option (Int)) (a55 : (Int × List (List Int) × Unit) → (List UInt8) → Int → Option (Int)) (N : Nat) : Kont (List UInt8 × Int) := kont (E23 a45 a54 a55) lv23 N c23 [1, 1, 1, 0, 1, 0] (fin TI en23 (resOf Tryd.f23) dec23)
noncomputable def R23_0 (a45 : (Int × List (List Int) × Unit) → (List UInt8) → Option (List UInt8)) (a54 : (Int × List (List Int) × Unit) → (List UInt8) → (List UInt8) → Option (Int)) (a55 : (Int × List (List Int) × Unit) → (List UInt8) → Int → Option (Int)) (N : Nat) (m : Nat) : TS → Option (List UInt8 × Int) := loopK (den (E23 a45 a54 a55) lv23 N (sub c23 [1, 1, 1, 0, 1, 0, 0])) (TS.norm nm23_0) (K23_0 a45 a54 a55 N) m
def l23a (a45 : (Int × List (List Int) × Unit) → (List UInt8) → Option (List UInt8)) (a54 : (Int × List (List Int) × Unit) → (List UInt8) → (List UInt8) → Option (Int)) (a55 : (Int × List (List Int) × Unit) → (List UInt8) → Int → Option (Int)) (N : Nat) (o0 : Int × List (List Int) × Unit) (ax1 : List UInt8) : Nat → (List UInt8) → Int → Option (List UInt8 × Int)
  | 0, _, _ => none
  | n + 1, b2_a, i9_a => cond (decide (i9_a < (ax1.length : Int))) (chk (decide (0 ≤ i9_a ∧ i9_a < (ax1.length : Int))) ((a55 o0 b2_a (((ax1.getD i9_a.toNat 0).toNat : Nat) : Int)).bind fun r2 =>
      cond (decide (r2 < (0 : Int))) (some (([] : List UInt8), (14 : Int)))
      (chk (decide (0 ≤ r2 ∧ r2 ≤ (b2_a.length : Int))) (chk (decide (0 ≤ w64 (r2 + (1 : Int)) ∧ w64 (r2 + (1 : Int)) ≤ (b2_a.length : Int))) (chk (decide ((b2_a.take r2.toNat).length + (b2_a.drop ((w64 (r2 + (1 : Int))).toNat)).length ≤ 9223372036854775807)) ((l23a a45 a54 a55 N o0 ax1 n ((b2_a.take r2.toNat) ++ (b2_a.drop ((w64 (r2 + (1 : Int))).toNat))) (w64 (i9_a + (1 : Int))))))))))
      ((a45 o0 b2_a).bind fun r3 =>
      some (r3, (0 : Int)))
theorem wl23a (a45 : (Int × List (List Int) × Unit) → (List UInt8) → Option (List UInt8)) (a54 : (Int × List (List Int) × Unit) → (List UInt8) → (List UInt8) → Option (Int)) (a55 : (Int × List (List Int) × Unit) → (List UInt8) → Int → Option (Int)) (N : Nat) (o0 : Int × List (List Int) × Unit) (ax1 : List UInt8) (m : Nat) (b2_a : List UInt8) (i9_a : Int) : R23_0 a45 a54 a55 N (m + 1) (Sl23a o0 ax1 b2_a i9_a) = cond (decide (i9_a < (ax1.length : Int))) (chk (decide (0 ≤ i9_a ∧ i9_a < (ax1.length : Int))) ((a55 o0 b2_a (((ax1.getD i9_a.toNat 0).toNat : Nat) : Int)).bind fun r2 =>
      cond (decide (r2 < (0 : Int))) (some (([] : List UInt8), (14 : Int)))
      (chk (decide (0 ≤ r2 ∧ r2 ≤ (b2_a.length : Int))) (chk (decide (0 ≤ w64 (r2 + (1 : Int)) ∧ w64 (r2 + (1 : Int)) ≤ (b2_a.length : Int))) (chk (decide ((b2_a.take r2.toNat).length + (b2_a.drop ((w64 (r2 + (1 : Int))).toNat)).length ≤ 9223372036854775807)) ((R23_0 a45 a54 a55 N m (Sl23a o0 ax1 ((b2_a.take r2.toNat) ++ (b2_a.drop ((w64 (r2 + (1 : Int))).toNat))) (w64 (i9_a + (1 : Int)))))))))))
      ((a45 o0 b2_a).bind fun r3 =>
      some (r3, (0 : Int))) := by kernel_rfl
theorem ql23a (a45 : (Int × List (List Int) × Unit) → (List UInt8) → Option (List UInt8)) (a54 : (Int × List (List Int) × Unit) → (List UInt8) → (List UInt8) → Option (Int)) (a55 : (Int × List (List Int) × Unit) → (List UInt8) → Int → Option (Int)) (N : Nat) (o0 : Int × List (List Int) × Unit) (ax1 : List UInt8) : ∀ (m : Nat) (b2_a : List UInt8) (i9_a : Int), R23_0 a45 a54 a55 N m (Sl23a o0 ax1 b2_a i9_a) = l23a a45 a54 a55 N o0 ax1 m b2_a i9_a
        | 0, _, _ => rfl
        | m + 1, b2_a, i9_a => by rw [wl23a]; simp only [l23a, ql23a a45 a54 a55 N o0 ax1 m]
def m23 (a45 : (Int × List (List Int) × Unit) → (List UInt8) → Option (List UInt8)) (a54 : (Int × List (List Int) × Unit) → (List UInt8) → (List UInt8) → Option (Int)) (a55 : (Int × List (List Int) × Unit) → (List UInt8) → Int → Option (Int)) (N : Nat) (o0 : Int × List (List Int) × Unit) (ax1 : List UInt8) (b2 : List UInt8) : Option (List UInt8 × Int) :=
      (a54 o0 ax1 b2).bind fun r1 =>
      cond (r1 != (0 : Int)) (some (([] : List UInt8), r1))
      ((l23a a45 a54 a55 N o0 ax1 N b2 (0 : Int)))
theorem wm23 (a45 : (Int × List (List Int) × Unit) → (List UInt8) → Option (List UInt8)) (a54 : (Int × List (List Int) × Unit) → (List UInt8) → (List UInt8) → Option (Int)) (a55 : (Int × List (List Int) × Unit) → (List UInt8) → Int → Option (Int)) (N : Nat) (o0 : Int × List (List Int) × Unit) (ax1 : List UInt8) (b2 : List UInt8) : callF (E23 a45 a54 a55) lv23 N en23 c23 (resOf Tryd.f23) 40 [.dv (.pair (.int .i64) (.pair (.sl (.arr 2 (.int .i64))) (.unit))) o0, .dv (.str) ax1, .dv (.str) b2] [] dec23 = (a54 o0 ax1 b2).bind fun r1 =>
      cond (r1 != (0 : Int)) (some (([] : List UInt8), r1))
      ((R23_0 a45 a54 a55 N N (Sl23a o0 ax1 b2 (0 : Int)))) := by kernel_rfl
theorem k23 (a45 : (Int × List (List Int) × Unit) → (List UInt8) → Option (List UInt8)) (a54 : (Int × List (List Int) × Unit) → (List UInt8) → (List UInt8) → Option (Int)) (a55 : (Int × List (List Int) × Unit) → (List UInt8) → Int → Option (Int)) (N : Nat) (o0 : Int × List (List Int) × Unit) (ax1 : List UInt8) (b2 : List UInt8) : callF (E23 a45 a54 a55) lv23 N en23 c23 (resOf Tryd.f23) 40 [.dv (.pair (.int .i64) (.pair (.sl (.arr 2 (.int .i64))) (.unit))) o0, .dv (.str) ax1, .dv (.str) b2] [] dec23 = m23 a45 a54 a55 N o0 ax1 b2 := by rw [wm23]; simp only [m23, ql23a]
theorem ok23 (a45 : (Int × List (List Int) × Unit) → (List UInt8) → Option (List UInt8)) (a54 : (Int × List (List Int) × Unit) → (List UInt8) → (List UInt8) → Option (Int)) (a55 : (Int × List (List Int) × Unit) → (List UInt8) → Int → Option (Int)) (h45 : FnOk Tryd.prog 45 (F45 a45)) (h54 : FnOk Tryd.prog 54 (F54 a54)) (h55 : FnOk Tryd.prog 55 (F55 a55)) (a : (Int × List (List Int) × Unit) → (List UInt8) → (List UInt8) → Option (List UInt8 × Int)) (h : ∀ o0 ax1 b2 r, a o0 ax1 b2 = some r → (∃ N, m23 a45 a54 a55 N o0 ax1 b2 = some r)) : FnOk Tryd.prog 23 (F23 a) := by
  intro args Of x hx
  simp only [F23] at hx
  split at hx
  · rename_i o0 ax1 b2
    obtain ⟨N, hN⟩ := h _ _ _ _ hx
    refine lifted (L := [(45, F45 a45), (54, F54 a54), (55, F55 a55)]) (rc := nrc) (fz := nfz) (fn := Tryd.f23) (by kernel_rfl) (by kernel_rfl) (by kernel_rfl) (by kernel_rfl) rfl ?_ ((k23 a45 a54 a55 N _ _ _).trans hN) ?_
    · intro p hp; simp only [List.mem_cons, List.not_mem_nil, or_false] at hp; rcases hp with rfl | rfl | rfl
      · exact h45
      · exact h54
      · exact h55
    · intro l o hd
      simp only [dec23] at hd
      split at hd
      · obtain rfl := Option.some.inj hd; exact ⟨rfl, rfl⟩
      · cases hd
  · cases hx
end Go.Proofs.YtmpbbkldopfkpaaDoor
