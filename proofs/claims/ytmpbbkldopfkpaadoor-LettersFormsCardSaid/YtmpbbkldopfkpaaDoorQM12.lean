import Derived.Test.YtmpbbkldopfkpaaDoorQFI
namespace Go.Proofs.YtmpbbkldopfkpaaDoor
open Go.RowKit
set_option linter.unusedVariables false
def E12 : Env := mkE TI TY [] nrc nfz
noncomputable def c12 : Code := bodyOf Tryd.f12
def lv12 : Nat → Option Norm := norms []
def en12 : End := ⟨[(4, .pair (.int .i64) (.pair (.sl (.arr 2 (.int .i64))) (.unit)))], ⟨[4], [], [], []⟩⟩
def dec12 (l : List TV) (o : List (Nat × TO)) : Option (Int × List (List Int) × Unit) := match l, o with | [.dv (.pair (.int .i64) (.pair (.sl (.arr 2 (.int .i64))) (.unit))) x0], [] => some (x0) | _, _ => none
def m12 (N : Nat) (o0 : Int × List (List Int) × Unit) : Option (Int × List (List Int) × Unit) :=
   some o0
theorem k12 (N : Nat) (o0 : Int × List (List Int) × Unit) : callF (E12) lv12 N en12 c12 (resOf Tryd.f12) 3 [.dv (.pair (.int .i64) (.pair (.sl (.arr 2 (.int .i64))) (.unit))) o0] [] dec12 = m12 N o0 := by kernel_rfl
theorem ok12 (a : (Int × List (List Int) × Unit) → Option (Int × List (List Int) × Unit)) (h : ∀ o0 r, a o0 = some r → (∃ N, m12 N o0 = some r)) : FnOk Tryd.prog 12 (F12 a) := by
 intro args Of x hx
 simp only [F12] at hx
 split at hx
 ·rename_i o0
  obtain ⟨N, hN⟩ := h _ _ hx
  refine lifted (L := []) (rc := nrc) (fz := nfz) (fn := Tryd.f12) (by kernel_rfl) (by kernel_rfl) (by kernel_rfl) (by kernel_rfl) rfl ?_ ((k12 N _).trans hN) ?_
  ·intro p hp; cases hp
  ·intro l o hd
   simp only [dec12] at hd
   split at hd
   ·obtain rfl := Option.some.inj hd; exact ⟨rfl, rfl⟩
   ·cases hd
 ·cases hx
end Go.Proofs.YtmpbbkldopfkpaaDoor
