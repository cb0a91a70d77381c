import Derived.Test.YtmpbbkldopfkpaaDoorQFI
namespace Go.Proofs.YtmpbbkldopfkpaaDoor
open Go.RowKit
set_option linter.unusedVariables false
def E68 : Env := mkE TI TY [] nrc nfz
noncomputable def c68 : Code := bodyOf Tryd.f68
def lv68 : Nat → Option Norm := norms []
def en68 : End := ⟨[], ⟨[15], [], [], []⟩⟩
def dec68 (l : List TV) (o : List (Nat × TO)) : Option (Bool) := match l, o with | [.dv (.bool) x0], [] => some (x0) | _, _ => none
def m68 (N : Nat) (n0 : Int) (lo1 : Int) (hi2 : Int) : Option (Bool) :=
   cond (decide (n0 ≥ lo1)) (some (decide (n0 ≤ hi2)))
   (some false)
theorem k68 (N : Nat) (n0 : Int) (lo1 : Int) (hi2 : Int) : callF (E68) lv68 N en68 c68 (resOf Tryd.f68) 12 [.dv (.int .i64) n0, .dv (.int .i64) lo1, .dv (.int .i64) hi2] [] dec68 = m68 N n0 lo1 hi2 := by kernel_rfl
theorem ok68 (a : Int → Int → Int → Option (Bool)) (h : ∀ n0 lo1 hi2 r, a n0 lo1 hi2 = some r → (∃ N, m68 N n0 lo1 hi2 = some r)) : FnOk Tryd.prog 68 (F68 a) := by
 intro args Of x hx
 simp only [F68] at hx
 split at hx
 ·rename_i n0 lo1 hi2
  obtain ⟨N, hN⟩ := h _ _ _ _ hx
  refine lifted (L := []) (rc := nrc) (fz := nfz) (fn := Tryd.f68) (by kernel_rfl) (by kernel_rfl) (by kernel_rfl) (by kernel_rfl) rfl ?_ ((k68 N _ _ _).trans hN) ?_
  ·intro p hp; cases hp
  ·intro l o hd
   simp only [dec68] at hd
   split at hd
   ·obtain rfl := Option.some.inj hd; exact ⟨rfl, rfl⟩
   ·cases hd
 ·cases hx
end Go.Proofs.YtmpbbkldopfkpaaDoor
