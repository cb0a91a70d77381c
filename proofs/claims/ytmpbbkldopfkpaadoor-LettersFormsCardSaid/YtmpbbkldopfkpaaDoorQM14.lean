import Derived.Test.YtmpbbkldopfkpaaDoorQFI
namespace Go.Proofs.YtmpbbkldopfkpaaDoor
open Go.RowKit
set_option linter.unusedVariables false
abbrev Q14T0 := (Int × List (List Int) × Unit) → (List UInt8) → Option (Int)
abbrev Q14T1 := (Int × List (List Int) × Unit) → (List UInt8) → Option (List UInt8)
def E14 (a44 : Q14T0) (a45 : Q14T1) : Env := mkE TI TY [(44, F44 a44), (45, F45 a45)] nrc nfz
noncomputable def c14 : Code := bodyOf Tryd.f14
def lv14 : Nat → Option Norm := norms []
def en14 : End := ⟨[], ⟨[16, 17], [], [], []⟩⟩
def dec14 (l : List TV) (o : List (Nat × TO)) : Option (List UInt8 × Int) := match l, o with | [.dv (.str) x0, .dv (.int .i64) x1], [] => some (x0, x1) | _, _ => none
def m14 (a44 : Q14T0) (a45 : Q14T1) (N : Nat) (o0 : Int × List (List Int) × Unit) (log1 : List UInt8) : Option (List UInt8 × Int) :=
   (a44 o0 log1).bind fun r1 =>
   cond (r1 != (0 : Int)) (some (([] : List UInt8), r1))
   ((a45 o0 log1).bind fun r2 =>
   some (r2, (0 : Int)))
theorem k14 (a44 : Q14T0) (a45 : Q14T1) (N : Nat) (o0 : Int × List (List Int) × Unit) (log1 : List UInt8) : callF (E14 a44 a45) lv14 N en14 c14 (resOf Tryd.f14) 14 [.dv (.pair (.int .i64) (.pair (.sl (.arr 2 (.int .i64))) (.unit))) o0, .dv (.str) log1] [] dec14 = m14 a44 a45 N o0 log1 := by kernel_rfl
theorem ok14 (a44 : Q14T0) (a45 : Q14T1) (h44 : FnOk Tryd.prog 44 (F44 a44)) (h45 : FnOk Tryd.prog 45 (F45 a45)) (a : (Int × List (List Int) × Unit) → (List UInt8) → Option (List UInt8 × Int)) (h : ∀ o0 log1 r, a o0 log1 = some r → (∃ N, m14 a44 a45 N o0 log1 = some r)) : FnOk Tryd.prog 14 (F14 a) := by
 intro args Of x hx
 simp only [F14] at hx
 split at hx
 ·rename_i o0 log1
  obtain ⟨N, hN⟩ := h _ _ _ hx
  refine lifted (L := [(44, F44 a44), (45, F45 a45)]) (rc := nrc) (fz := nfz) (fn := Tryd.f14) (by kernel_rfl) (by kernel_rfl) (by kernel_rfl) (by kernel_rfl) rfl ?_ ((k14 a44 a45 N _ _).trans hN) ?_
  ·intro p hp; simp only [List.mem_cons, List.not_mem_nil, or_false] at hp; rcases hp with rfl | rfl
   ·exact h44
   ·exact h45
  ·intro l o hd
   simp only [dec14] at hd
   split at hd
   ·obtain rfl := Option.some.inj hd; exact ⟨rfl, rfl⟩
   ·cases hd
 ·cases hx
end Go.Proofs.YtmpbbkldopfkpaaDoor
