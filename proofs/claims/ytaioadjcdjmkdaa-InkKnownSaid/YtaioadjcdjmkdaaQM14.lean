import Derived.Test.YtaioadjcdjmkdaaQFI
namespace Go.Proofs.Ytaioadjcdjmkdaa
open Go.RowKit
set_option linter.unusedVariables false
def E14 (a16 : Option (Bool)) (a17 : (Int × List (List Int) × Unit) → (List Int) → Option (List Int × Int)) (a19 : (Int × List (List Int) × Unit) → (List Int) → (List Bool) → Option (Int × Int)) (a23 : (List Int) → (List Int) → Option (Bool)) (a24 : (Int × List (List Int) × Unit) → Option (Int)) (a33 : (Int × List (List Int) × Unit) → (List Int) → Option (List Int × Int)) (a35 : (Int × List (List Int) × Unit) → Int → Option (Int × Int)) (a52 : Option (Int × List (List Int) × Unit)) (a53 : (List Int) → Option (List Int)) (a54 : Option (Int × List (List Int) × Unit)) : Env := mkE TI TY [(16, F16 a16), (17, F17 a17), (19, F19 a19), (23, F23 a23), (24, F24 a24), (33, F33 a33), (35, F35 a35), (52, F52 a52), (53, F53 a53), (54, F54 a54)] nrc nfz
noncomputable def c14 : Code := bodyOf Try.f14
def lv14 : Nat → Option Norm := norms []
def en14 : End := ⟨[], ⟨[108], [], [], []⟩⟩
def dec14 (l : List TV) (o : List (Nat × TO)) : Option (Bool) := match l, o with | [.dv (.bool) x0], [] => some (x0) | _, _ => none
def m14 (a16 : Option (Bool)) (a17 : (Int × List (List Int) × Unit) → (List Int) → Option (List Int × Int)) (a19 : (Int × List (List Int) × Unit) → (List Int) → (List Bool) → Option (Int × Int)) (a23 : (List Int) → (List Int) → Option (Bool)) (a24 : (Int × List (List Int) × Unit) → Option (Int)) (a33 : (Int × List (List Int) × Unit) → (List Int) → Option (List Int × Int)) (a35 : (Int × List (List Int) × Unit) → Int → Option (Int × Int)) (a52 : Option (Int × List (List Int) × Unit)) (a53 : (List Int) → Option (List Int)) (a54 : Option (Int × List (List Int) × Unit)) (N : Nat) : Option (Bool) :=
      (a52).bind fun r1 =>
      (a53 ([(0 : Int), (1 : Int)] : List Int)).bind fun r2 =>
      (a17 r1 r2).bind fun r3 =>
      (a52).bind fun r4 =>
      (a53 ([(0 : Int), (1 : Int)] : List Int)).bind fun r5 =>
      (a19 r4 r5 ([false, true] : List Bool)).bind fun r6 =>
      (a52).bind fun r7 =>
      (a53 ([(1 : Int), (2 : Int)] : List Int)).bind fun r8 =>
      (a33 r7 r8).bind fun r9 =>
      (a52).bind fun r10 =>
      (a53 ([(4 : Int)] : List Int)).bind fun r11 =>
      (a33 r10 r11).bind fun r12 =>
      (a52).bind fun r13 =>
      (a35 r13 (0 : Int)).bind fun r14 =>
      (a54).bind fun r15 =>
      (a35 r15 (4 : Int)).bind fun r16 =>
      cond (r3.2 == (0 : Int)) (cond (r6.2 == (0 : Int)) (cond (r9.2 == (0 : Int)) (cond (r12.2 == (0 : Int)) (cond (r14.2 == (0 : Int)) (cond (r16.2 == (14 : Int)) ((a53 ([(0 : Int), (1 : Int), (2 : Int), (3 : Int)] : List Int)).bind fun r17 =>
      (a23 r3.1 r17).bind fun r18 =>
      cond (r18) (cond (r6.1 == (2 : Int)) ((a53 ([(0 : Int), (1 : Int)] : List Int)).bind fun r19 =>
      (a23 r9.1 r19).bind fun r20 =>
      cond (r20) ((a53 ([(2 : Int)] : List Int)).bind fun r21 =>
      (a23 r12.1 r21).bind fun r22 =>
      cond (r22) (cond (r14.1 == (0 : Int)) ((a24 ((2 : Int), (([] : List (List Int)), ()))).bind fun r23 =>
      cond (r23 == (1 : Int)) ((a16).bind fun r24 =>
      some r24)
      (some false))
      (some false))
      (some false))
      (some false))
      (some false))
      (some false))
      (some false))
      (some false))
      (some false))
      (some false))
      (some false))
      (some false)
theorem k14 (a16 : Option (Bool)) (a17 : (Int × List (List Int) × Unit) → (List Int) → Option (List Int × Int)) (a19 : (Int × List (List Int) × Unit) → (List Int) → (List Bool) → Option (Int × Int)) (a23 : (List Int) → (List Int) → Option (Bool)) (a24 : (Int × List (List Int) × Unit) → Option (Int)) (a33 : (Int × List (List Int) × Unit) → (List Int) → Option (List Int × Int)) (a35 : (Int × List (List Int) × Unit) → Int → Option (Int × Int)) (a52 : Option (Int × List (List Int) × Unit)) (a53 : (List Int) → Option (List Int)) (a54 : Option (Int × List (List Int) × Unit)) (N : Nat) : callF (E14 a16 a17 a19 a23 a24 a33 a35 a52 a53 a54) lv14 N en14 c14 (resOf Try.f14) 108 [] [] dec14 = m14 a16 a17 a19 a23 a24 a33 a35 a52 a53 a54 N := by kernel_rfl
theorem ok14 (a16 : Option (Bool)) (a17 : (Int × List (List Int) × Unit) → (List Int) → Option (List Int × Int)) (a19 : (Int × List (List Int) × Unit) → (List Int) → (List Bool) → Option (Int × Int)) (a23 : (List Int) → (List Int) → Option (Bool)) (a24 : (Int × List (List Int) × Unit) → Option (Int)) (a33 : (Int × List (List Int) × Unit) → (List Int) → Option (List Int × Int)) (a35 : (Int × List (List Int) × Unit) → Int → Option (Int × Int)) (a52 : Option (Int × List (List Int) × Unit)) (a53 : (List Int) → Option (List Int)) (a54 : Option (Int × List (List Int) × Unit)) (h16 : FnOk Try.prog 16 (F16 a16)) (h17 : FnOk Try.prog 17 (F17 a17)) (h19 : FnOk Try.prog 19 (F19 a19)) (h23 : FnOk Try.prog 23 (F23 a23)) (h24 : FnOk Try.prog 24 (F24 a24)) (h33 : FnOk Try.prog 33 (F33 a33)) (h35 : FnOk Try.prog 35 (F35 a35)) (h52 : FnOk Try.prog 52 (F52 a52)) (h53 : FnOk Try.prog 53 (F53 a53)) (h54 : FnOk Try.prog 54 (F54 a54)) (a : Option (Bool)) (h : ∀ r, a = some r → (∃ N, m14 a16 a17 a19 a23 a24 a33 a35 a52 a53 a54 N = some r)) : FnOk Try.prog 14 (F14 a) := by
  intro args Of x hx
  simp only [F14] at hx
  split at hx
  · skip
    obtain ⟨N, hN⟩ := h _ hx
    refine lifted (L := [(16, F16 a16), (17, F17 a17), (19, F19 a19), (23, F23 a23), (24, F24 a24), (33, F33 a33), (35, F35 a35), (52, F52 a52), (53, F53 a53), (54, F54 a54)]) (rc := nrc) (fz := nfz) (fn := Try.f14) (by kernel_rfl) (by kernel_rfl) (by kernel_rfl) (by kernel_rfl) rfl ?_ ((k14 a16 a17 a19 a23 a24 a33 a35 a52 a53 a54 N).trans hN) ?_
    · intro p hp; simp only [List.mem_cons, List.not_mem_nil, or_false] at hp; rcases hp with rfl | rfl | rfl | rfl | rfl | rfl | rfl | rfl | rfl | rfl
      · exact h16
      · exact h17
      · exact h19
      · exact h23
      · exact h24
      · exact h33
      · exact h35
      · exact h52
      · exact h53
      · exact h54
    · intro l o hd
      simp only [dec14] at hd
      split at hd
      · obtain rfl := Option.some.inj hd; exact ⟨rfl, rfl⟩
      · cases hd
  · cases hx
end Go.Proofs.Ytaioadjcdjmkdaa
