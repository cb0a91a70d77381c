import Derived.Test.YtmpbbkldopfkpaaDoorQFI
namespace Go.Proofs.YtmpbbkldopfkpaaDoor
open Go.RowKit
set_option linter.unusedVariables false
def E10 (a11 : Option (Bool)) (a13 : (Int × List (List Int) × Unit) → (List UInt8) → Option (List UInt8 × Int)) (a15 : (Int × List (List Int) × Unit) → (List UInt8) → Option (List (List UInt8) × Int)) (a18 : (Int × List (List Int) × Unit) → (List UInt8) → Option (Int × Int)) (a20 : (Int × List (List Int) × Unit) → (List UInt8) → Int → Int → Option (Bool × Int)) (a22 : (Int × List (List Int) × Unit) → (List UInt8) → (List UInt8) → Option (List UInt8 × Int)) (a36 : (Int × List (List Int) × Unit) → (List UInt8) → (List UInt8) → Option (Int × Int × Int)) (a37 : Option (Int × List (List Int) × Unit)) (a38 : (Int × List (List Int) × Unit) → Option (Int)) : Env := mkE TI TY [(11, F11 a11), (13, F13 a13), (15, F15 a15), (18, F18 a18), (20, F20 a20), (22, F22 a22), (36, F36 a36), (37, F37 a37), (38, F38 a38)] nrc nfz
noncomputable def c10 : Code := bodyOf Tryd.f10
def lv10 : Nat → Option Norm := norms []
def en10 : End := ⟨[], ⟨[98], [], [], []⟩⟩
def dec10 (l : List TV) (o : List (Nat × TO)) : Option (Bool) := match l, o with | [.dv (.bool) x0], [] => some (x0) | _, _ => none
def m10 (a11 : Option (Bool)) (a13 : (Int × List (List Int) × Unit) → (List UInt8) → Option (List UInt8 × Int)) (a15 : (Int × List (List Int) × Unit) → (List UInt8) → Option (List (List UInt8) × Int)) (a18 : (Int × List (List Int) × Unit) → (List UInt8) → Option (Int × Int)) (a20 : (Int × List (List Int) × Unit) → (List UInt8) → Int → Int → Option (Bool × Int)) (a22 : (Int × List (List Int) × Unit) → (List UInt8) → (List UInt8) → Option (List UInt8 × Int)) (a36 : (Int × List (List Int) × Unit) → (List UInt8) → (List UInt8) → Option (Int × Int × Int)) (a37 : Option (Int × List (List Int) × Unit)) (a38 : (Int × List (List Int) × Unit) → Option (Int)) (N : Nat) : Option (Bool) :=
      (a37).bind fun r1 =>
      (a36 r1 ([97, 98] : List UInt8) ([97, 98, 98] : List UInt8)).bind fun r2 =>
      (a37).bind fun r3 =>
      (a20 r3 ([100, 97, 99, 98] : List UInt8) (0 : Int) (3 : Int)).bind fun r4 =>
      (a37).bind fun r5 =>
      (a22 r5 ([97] : List UInt8) ([98, 97, 100, 99] : List UInt8)).bind fun r6 =>
      (a18 ((1 : Int), (([] : List (List Int)), ())) ([97, 97, 97, 97] : List UInt8)).bind fun r7 =>
      (a37).bind fun r8 =>
      (a15 r8 ([] : List UInt8)).bind fun r9 =>
      (a37).bind fun r10 =>
      (a13 r10 ([97, 98, 101] : List UInt8)).bind fun r11 =>
      cond (r2.2.2 == (0 : Int)) (cond (r4.2 == (0 : Int)) (cond (r6.2 == (14 : Int)) (cond (r7.2 == (0 : Int)) (cond (r9.2 == (0 : Int)) (cond (r11.2 == (9 : Int)) (cond (r2.1 == (0 : Int)) (cond (r2.2.1 == (1 : Int)) (cond (r4.1) (cond (r7.1 == (1 : Int)) (cond ((r9.1.length : Int) == (0 : Int)) ((a38 ((2 : Int), (([([(0 : Int), (1 : Int)] : List Int), ([(1 : Int), (0 : Int)] : List Int)] : List (List Int)), ()))).bind fun r12 =>
      cond (r12 == (6 : Int)) ((a11).bind fun r13 =>
      some r13)
      (some false))
      (some false))
      (some false))
      (some false))
      (some false))
      (some false))
      (some false))
      (some false))
      (some false))
      (some false))
      (some false))
      (some false)
theorem k10 (a11 : Option (Bool)) (a13 : (Int × List (List Int) × Unit) → (List UInt8) → Option (List UInt8 × Int)) (a15 : (Int × List (List Int) × Unit) → (List UInt8) → Option (List (List UInt8) × Int)) (a18 : (Int × List (List Int) × Unit) → (List UInt8) → Option (Int × Int)) (a20 : (Int × List (List Int) × Unit) → (List UInt8) → Int → Int → Option (Bool × Int)) (a22 : (Int × List (List Int) × Unit) → (List UInt8) → (List UInt8) → Option (List UInt8 × Int)) (a36 : (Int × List (List Int) × Unit) → (List UInt8) → (List UInt8) → Option (Int × Int × Int)) (a37 : Option (Int × List (List Int) × Unit)) (a38 : (Int × List (List Int) × Unit) → Option (Int)) (N : Nat) : callF (E10 a11 a13 a15 a18 a20 a22 a36 a37 a38) lv10 N en10 c10 (resOf Tryd.f10) 98 [] [] dec10 = m10 a11 a13 a15 a18 a20 a22 a36 a37 a38 N := by kernel_rfl
theorem ok10 (a11 : Option (Bool)) (a13 : (Int × List (List Int) × Unit) → (List UInt8) → Option (List UInt8 × Int)) (a15 : (Int × List (List Int) × Unit) → (List UInt8) → Option (List (List UInt8) × Int)) (a18 : (Int × List (List Int) × Unit) → (List UInt8) → Option (Int × Int)) (a20 : (Int × List (List Int) × Unit) → (List UInt8) → Int → Int → Option (Bool × Int)) (a22 : (Int × List (List Int) × Unit) → (List UInt8) → (List UInt8) → Option (List UInt8 × Int)) (a36 : (Int × List (List Int) × Unit) → (List UInt8) → (List UInt8) → Option (Int × Int × Int)) (a37 : Option (Int × List (List Int) × Unit)) (a38 : (Int × List (List Int) × Unit) → Option (Int)) (h11 : FnOk Tryd.prog 11 (F11 a11)) (h13 : FnOk Tryd.prog 13 (F13 a13)) (h15 : FnOk Tryd.prog 15 (F15 a15)) (h18 : FnOk Tryd.prog 18 (F18 a18)) (h20 : FnOk Tryd.prog 20 (F20 a20)) (h22 : FnOk Tryd.prog 22 (F22 a22)) (h36 : FnOk Tryd.prog 36 (F36 a36)) (h37 : FnOk Tryd.prog 37 (F37 a37)) (h38 : FnOk Tryd.prog 38 (F38 a38)) (a : Option (Bool)) (h : ∀ r, a = some r → (∃ N, m10 a11 a13 a15 a18 a20 a22 a36 a37 a38 N = some r)) : FnOk Tryd.prog 10 (F10 a) := by
  intro args Of x hx
  simp only [F10] at hx
  split at hx
  · skip
    obtain ⟨N, hN⟩ := h _ hx
    refine lifted (L := [(11, F11 a11), (13, F13 a13), (15, F15 a15), (18, F18 a18), (20, F20 a20), (22, F22 a22), (36, F36 a36), (37, F37 a37), (38, F38 a38)]) (rc := nrc) (fz := nfz) (fn := Tryd.f10) (by kernel_rfl) (by kernel_rfl) (by kernel_rfl) (by kernel_rfl) rfl ?_ ((k10 a11 a13 a15 a18 a20 a22 a36 a37 a38 N).trans hN) ?_
    · intro p hp; simp only [List.mem_cons, List.not_mem_nil, or_false] at hp; rcases hp with rfl | rfl | rfl | rfl | rfl | rfl | rfl | rfl | rfl
      · exact h11
      · exact h13
      · exact h15
      · exact h18
      · exact h20
      · exact h22
      · exact h36
      · exact h37
      · exact h38
    · intro l o hd
      simp only [dec10] at hd
      split at hd
      · obtain rfl := Option.some.inj hd; exact ⟨rfl, rfl⟩
      · cases hd
  · cases hx
end Go.Proofs.YtmpbbkldopfkpaaDoor
