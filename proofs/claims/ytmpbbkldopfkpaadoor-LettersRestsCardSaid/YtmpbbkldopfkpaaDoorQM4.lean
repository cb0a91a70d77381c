import Derived.Test.YtmpbbkldopfkpaaDoorQFI
namespace Go.Proofs.YtmpbbkldopfkpaaDoor
open Go.RowKit
set_option linter.unusedVariables false
def E4 (a11 : Option (Bool)) (a12 : (Int × List (List Int) × Unit) → Option (Int × List (List Int) × Unit)) (a22 : (Int × List (List Int) × Unit) → (List UInt8) → (List UInt8) → Option (List UInt8 × Int)) (a23 : (Int × List (List Int) × Unit) → (List UInt8) → (List UInt8) → Option (List UInt8 × Int)) (a24 : (Int × List (List Int) × Unit) → (List UInt8) → (List UInt8) → Option (List UInt8 × Int)) (a25 : (Int × List (List Int) × Unit) → (List UInt8) → (List UInt8) → Option (List UInt8 × Int)) : Env := mkE TI TY [(11, F11 a11), (12, F12 a12), (22, F22 a22), (23, F23 a23), (24, F24 a24), (25, F25 a25)] nrc nfz
noncomputable def c4 : Code := bodyOf Tryd.f4
def lv4 : Nat → Option Norm := norms []
def en4 : End := ⟨[], ⟨[82], [], [], []⟩⟩
def dec4 (l : List TV) (o : List (Nat × TO)) : Option (Bool) := match l, o with | [.dv (.bool) x0], [] => some (x0) | _, _ => none
def m4 (a11 : Option (Bool)) (a12 : (Int × List (List Int) × Unit) → Option (Int × List (List Int) × Unit)) (a22 : (Int × List (List Int) × Unit) → (List UInt8) → (List UInt8) → Option (List UInt8 × Int)) (a23 : (Int × List (List Int) × Unit) → (List UInt8) → (List UInt8) → Option (List UInt8 × Int)) (a24 : (Int × List (List Int) × Unit) → (List UInt8) → (List UInt8) → Option (List UInt8 × Int)) (a25 : (Int × List (List Int) × Unit) → (List UInt8) → (List UInt8) → Option (List UInt8 × Int)) (N : Nat) (o0 : Int × List (List Int) × Unit) (ax1 : List UInt8) (b2 : List UInt8) : Option (Bool) :=
      cond (decide ((o0.2.1.length : Int) > (60 : Int))) ((a11).bind fun r1 =>
      some r1)
      (cond (decide ((ax1.length : Int) > (100 : Int))) ((a11).bind fun r2 =>
      some r2)
      (cond (decide ((b2.length : Int) > (100 : Int))) ((a11).bind fun r3 =>
      some r3)
      ((a12 o0).bind fun r4 =>
      (a22 o0 ax1 b2).bind fun r5 =>
      (a23 r4 ax1 b2).bind fun r6 =>
      (a24 o0 ax1 b2).bind fun r7 =>
      (a25 r4 ax1 b2).bind fun r8 =>
      cond (r5.1 == r6.1) (cond (r5.2 == r6.2) (cond (r7.1 == r8.1) (cond (r7.2 == r8.2) ((a11).bind fun r9 =>
      some r9)
      (some false))
      (some false))
      (some false))
      (some false))))
theorem k4 (a11 : Option (Bool)) (a12 : (Int × List (List Int) × Unit) → Option (Int × List (List Int) × Unit)) (a22 : (Int × List (List Int) × Unit) → (List UInt8) → (List UInt8) → Option (List UInt8 × Int)) (a23 : (Int × List (List Int) × Unit) → (List UInt8) → (List UInt8) → Option (List UInt8 × Int)) (a24 : (Int × List (List Int) × Unit) → (List UInt8) → (List UInt8) → Option (List UInt8 × Int)) (a25 : (Int × List (List Int) × Unit) → (List UInt8) → (List UInt8) → Option (List UInt8 × Int)) (N : Nat) (o0 : Int × List (List Int) × Unit) (ax1 : List UInt8) (b2 : List UInt8) : callF (E4 a11 a12 a22 a23 a24 a25) lv4 N en4 c4 (resOf Tryd.f4) 79 [.dv (.pair (.int .i64) (.pair (.sl (.arr 2 (.int .i64))) (.unit))) o0, .dv (.str) ax1, .dv (.str) b2] [] dec4 = m4 a11 a12 a22 a23 a24 a25 N o0 ax1 b2 := by kernel_rfl
theorem ok4 (a11 : Option (Bool)) (a12 : (Int × List (List Int) × Unit) → Option (Int × List (List Int) × Unit)) (a22 : (Int × List (List Int) × Unit) → (List UInt8) → (List UInt8) → Option (List UInt8 × Int)) (a23 : (Int × List (List Int) × Unit) → (List UInt8) → (List UInt8) → Option (List UInt8 × Int)) (a24 : (Int × List (List Int) × Unit) → (List UInt8) → (List UInt8) → Option (List UInt8 × Int)) (a25 : (Int × List (List Int) × Unit) → (List UInt8) → (List UInt8) → Option (List UInt8 × Int)) (h11 : FnOk Tryd.prog 11 (F11 a11)) (h12 : FnOk Tryd.prog 12 (F12 a12)) (h22 : FnOk Tryd.prog 22 (F22 a22)) (h23 : FnOk Tryd.prog 23 (F23 a23)) (h24 : FnOk Tryd.prog 24 (F24 a24)) (h25 : FnOk Tryd.prog 25 (F25 a25)) (a : (Int × List (List Int) × Unit) → (List UInt8) → (List UInt8) → Option (Bool)) (h : ∀ o0 ax1 b2 r, a o0 ax1 b2 = some r → (∃ N, m4 a11 a12 a22 a23 a24 a25 N o0 ax1 b2 = some r)) : FnOk Tryd.prog 4 (F4 a) := by
  intro args Of x hx
  simp only [F4] at hx
  split at hx
  · rename_i o0 ax1 b2
    obtain ⟨N, hN⟩ := h _ _ _ _ hx
    refine lifted (L := [(11, F11 a11), (12, F12 a12), (22, F22 a22), (23, F23 a23), (24, F24 a24), (25, F25 a25)]) (rc := nrc) (fz := nfz) (fn := Tryd.f4) (by kernel_rfl) (by kernel_rfl) (by kernel_rfl) (by kernel_rfl) rfl ?_ ((k4 a11 a12 a22 a23 a24 a25 N _ _ _).trans hN) ?_
    · intro p hp; simp only [List.mem_cons, List.not_mem_nil, or_false] at hp; rcases hp with rfl | rfl | rfl | rfl | rfl | rfl
      · exact h11
      · exact h12
      · exact h22
      · exact h23
      · exact h24
      · exact h25
    · intro l o hd
      simp only [dec4] at hd
      split at hd
      · obtain rfl := Option.some.inj hd; exact ⟨rfl, rfl⟩
      · cases hd
  · cases hx
end Go.Proofs.YtmpbbkldopfkpaaDoor
