import Derived.Test.YtmpbbkldopfkpaaDoorQFI
namespace Go.Proofs.YtmpbbkldopfkpaaDoor
open Go.RowKit
set_option linter.unusedVariables false
abbrev Q48T0 := (Int × List (List Int) × Unit) → Int → Int → Int → Option (Bool)
def E48 (a67 : Q48T0) : Env := mkE TI TY [(67, F67 a67)] nrc nfz
noncomputable def c48 : Code := bodyOf Tryd.f48
def lv48 : Nat → Option Norm := norms []
def en48 : End := ⟨[], ⟨[19], [], [], []⟩⟩
def dec48 (l : List TV) (o : List (Nat × TO)) : Option (Bool) := match l, o with | [.dv (.bool) x0], [] => some (x0) | _, _ => none
def m48 (a67 : Q48T0) (N : Nat) (o0 : Int × List (List Int) × Unit) (x1 : Int) (y2 : Int) : Option (Bool) :=
   (a67 o0 (o0.2.1.length : Int) (w64 (IntKind.wrap .u8 (x1 - (97 : Int)))) (w64 (IntKind.wrap .u8 (y2 - (97 : Int))))).bind fun r1 =>
   some (!r1)
theorem k48 (a67 : Q48T0) (N : Nat) (o0 : Int × List (List Int) × Unit) (x1 : Int) (y2 : Int) : callF (E48 a67) lv48 N en48 c48 (resOf Tryd.f48) 16 [.dv (.pair (.int .i64) (.pair (.sl (.arr 2 (.int .i64))) (.unit))) o0, .dv (.int .u8) x1, .dv (.int .u8) y2] [] dec48 = m48 a67 N o0 x1 y2 := by kernel_rfl
theorem ok48 (a67 : Q48T0) (h67 : FnOk Tryd.prog 67 (F67 a67)) (a : (Int × List (List Int) × Unit) → Int → Int → Option (Bool)) (h : ∀ o0 x1 y2 r, a o0 x1 y2 = some r → (∃ N, m48 a67 N o0 x1 y2 = some r)) : FnOk Tryd.prog 48 (F48 a) := by
 intro args Of x hx
 simp only [F48] at hx
 split at hx
 ·rename_i o0 x1 y2
  obtain ⟨N, hN⟩ := h _ _ _ _ hx
  refine lifted (L := [(67, F67 a67)]) (rc := nrc) (fz := nfz) (fn := Tryd.f48) (by kernel_rfl) (by kernel_rfl) (by kernel_rfl) (by kernel_rfl) rfl ?_ ((k48 a67 N _ _ _).trans hN) ?_
  ·intro p hp; simp only [List.mem_cons, List.not_mem_nil, or_false] at hp; rcases hp with rfl; exact h67
  ·intro l o hd
   simp only [dec48] at hd
   split at hd
   ·obtain rfl := Option.some.inj hd; exact ⟨rfl, rfl⟩
   ·cases hd
 ·cases hx
end Go.Proofs.YtmpbbkldopfkpaaDoor
