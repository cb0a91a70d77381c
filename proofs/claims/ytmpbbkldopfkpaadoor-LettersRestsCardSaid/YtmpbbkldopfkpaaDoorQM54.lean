import Derived.Test.YtmpbbkldopfkpaaDoorQFI
namespace Go.Proofs.YtmpbbkldopfkpaaDoor
open Go.RowKit
set_option linter.unusedVariables false
def E54 (a44 : (Int × List (List Int) × Unit) → (List UInt8) → Option (Int)) : Env := mkE TI TY [(44, F44 a44)] nrc nfz
noncomputable def c54 : Code := bodyOf Tryd.f54
def lv54 : Nat → Option Norm := norms []
def en54 : End := ⟨[], ⟨[17], [], [], []⟩⟩
def dec54 (l : List TV) (o : List (Nat × TO)) : Option (Int) := match l, o with | [.dv (.int .i64) x0], [] => some (x0) | _, _ => none
def m54 (a44 : (Int × List (List Int) × Unit) → (List UInt8) → Option (Int)) (N : Nat) (o0 : Int × List (List Int) × Unit) (ax1 : List UInt8) (b2 : List UInt8) : Option (Int) :=
      (a44 o0 ax1).bind fun r1 =>
      cond (r1 == (0 : Int)) ((a44 o0 b2).bind fun r2 =>
      some r2)
      (some r1)
theorem k54 (a44 : (Int × List (List Int) × Unit) → (List UInt8) → Option (Int)) (N : Nat) (o0 : Int × List (List Int) × Unit) (ax1 : List UInt8) (b2 : List UInt8) : callF (E54 a44) lv54 N en54 c54 (resOf Tryd.f54) 14 [.dv (.pair (.int .i64) (.pair (.sl (.arr 2 (.int .i64))) (.unit))) o0, .dv (.str) ax1, .dv (.str) b2] [] dec54 = m54 a44 N o0 ax1 b2 := by kernel_rfl
theorem ok54 (a44 : (Int × List (List Int) × Unit) → (List UInt8) → Option (Int)) (h44 : FnOk Tryd.prog 44 (F44 a44)) (a : (Int × List (List Int) × Unit) → (List UInt8) → (List UInt8) → Option (Int)) (h : ∀ o0 ax1 b2 r, a o0 ax1 b2 = some r → (∃ N, m54 a44 N o0 ax1 b2 = some r)) : FnOk Tryd.prog 54 (F54 a) := by
  intro args Of x hx
  simp only [F54] at hx
  split at hx
  · rename_i o0 ax1 b2
    obtain ⟨N, hN⟩ := h _ _ _ _ hx
    refine lifted (L := [(44, F44 a44)]) (rc := nrc) (fz := nfz) (fn := Tryd.f54) (by kernel_rfl) (by kernel_rfl) (by kernel_rfl) (by kernel_rfl) rfl ?_ ((k54 a44 N _ _ _).trans hN) ?_
    · intro p hp; simp only [List.mem_cons, List.not_mem_nil, or_false] at hp; rcases hp with rfl; exact h44
    · intro l o hd
      simp only [dec54] at hd
      split at hd
      · obtain rfl := Option.some.inj hd; exact ⟨rfl, rfl⟩
      · cases hd
  · cases hx
end Go.Proofs.YtmpbbkldopfkpaaDoor
