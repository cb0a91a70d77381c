import Derived.Test.YtmpbbkldopfkpaaDoorQFI
namespace Go.Proofs.YtmpbbkldopfkpaaDoor
open Go.RowKit
set_option linter.unusedVariables false
def E71c : Env := mkE TI TY [] nrc nfz
noncomputable def c71c : Code := bodyOf Tryd.f71
def lv71c : Nat → Option Norm := norms []
def en71c : End := ⟨[], ⟨[18], [], [], []⟩⟩
def dec71c (l : List TV) (o : List (Nat × TO)) : Option (Int) := match l, o with | [.dv (.int .i32) x0], [] => some (x0) | _, _ => none
def m71c (N : Nat) (cx0 : Int) (p1 : Int) (p2 : Int) : Option (Int) :=
   cond (cx0 == (IntKind.wrap .i32 (w64 ((97 : Int) + p1)))) (some cx0)
   (cond (cx0 == (IntKind.wrap .i32 (w64 ((97 : Int) + p2)))) (some cx0)
   (some (-1 : Int)))
theorem k71c (N : Nat) (cx0 : Int) (p1 : Int) (p2 : Int) : callF (E71c) lv71c N en71c c71c (resOf Tryd.f71) 15 [.dv (.int .i32) cx0, .el (.int .i64) p1 [], .el (.int .i64) p2 []] [] dec71c = m71c N cx0 p1 p2 := by kernel_rfl
theorem ok71c (a : Int → Int → Int → Option (Int)) (h : ∀ cx0 p1 p2 r, a cx0 p1 p2 = some r → (∃ N, m71c N cx0 p1 p2 = some r)) : FnOk Tryd.prog 71 (F71c a) := by
 intro args Of x hx
 simp only [F71c] at hx
 split at hx
 ·rename_i cx0 p1 p2
  obtain ⟨N, hN⟩ := h _ _ _ _ hx
  refine lifted (L := []) (rc := nrc) (fz := nfz) (fn := Tryd.f71) (by kernel_rfl) (by kernel_rfl) (by kernel_rfl) (by kernel_rfl) rfl ?_ ((k71c N _ _ _).trans hN) ?_
  ·intro p hp; cases hp
  ·intro l o hd
   simp only [dec71c] at hd
   split at hd
   ·obtain rfl := Option.some.inj hd; exact ⟨rfl, rfl⟩
   ·cases hd
 ·cases hx
end Go.Proofs.YtmpbbkldopfkpaaDoor
