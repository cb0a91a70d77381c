import Derived.Test.YtbblnbolabpfmaaQFI
namespace Go.Proofs.Ytbblnbolabpfmaa
open Go.RowKit
set_option linter.unusedVariables false
def E13 (a14 : Option (Bool)) (a23 : (List (Int × Int × Unit)) → Option (Int)) (a26 : (List (Int × Int × Unit)) → (List Int) → Option (Int × Int)) (a34 : (List (Int × Int × Unit)) → Int → Option (Int × Int × Int)) (a36 : (List (Int × Int × Unit)) → Int → Option (Int × Int)) (a38 : (List (Int × Int × Unit)) → Int → Option (Int × Int)) (a47 : Option (List (Int × Int × Unit))) (a48 : (List Int) → Option (List Int)) : Env := mkE TI TY [(14, F14 a14), (23, F23 a23), (26, F26 a26), (34, F34 a34), (36, F36 a36), (38, F38 a38), (47, F47 a47), (48, F48 a48)] nrc nfz
noncomputable def c13 : Code := bodyOf Try.f13
def lv13 : Nat → Option Norm := norms []
def en13 : End := ⟨[], ⟨[91], [], [], []⟩⟩
def dec13 (l : List TV) (o : List (Nat × TO)) : Option (Bool) := match l, o with | [.dv (.bool) x0], [] => some (x0) | _, _ => none
def m13 (a14 : Option (Bool)) (a23 : (List (Int × Int × Unit)) → Option (Int)) (a26 : (List (Int × Int × Unit)) → (List Int) → Option (Int × Int)) (a34 : (List (Int × Int × Unit)) → Int → Option (Int × Int × Int)) (a36 : (List (Int × Int × Unit)) → Int → Option (Int × Int)) (a38 : (List (Int × Int × Unit)) → Int → Option (Int × Int)) (a47 : Option (List (Int × Int × Unit))) (a48 : (List Int) → Option (List Int)) (N : Nat) : Option (Bool) :=
      (a47).bind fun r1 =>
      (a34 r1 (6 : Int)).bind fun r2 =>
      (a47).bind fun r3 =>
      (a34 r3 (0 : Int)).bind fun r4 =>
      (a47).bind fun r5 =>
      (a36 r5 (2 : Int)).bind fun r6 =>
      (a47).bind fun r7 =>
      (a38 r7 (3 : Int)).bind fun r8 =>
      (a47).bind fun r9 =>
      (a48 ([(1 : Int), (2 : Int)] : List Int)).bind fun r10 =>
      (a26 r9 r10).bind fun r11 =>
      cond (r2.2.2 == (0 : Int)) (cond (r4.2.2 == (0 : Int)) (cond (r6.2 == (0 : Int)) (cond (r8.2 == (0 : Int)) (cond (r11.2 == (3 : Int)) (cond (r2.1 == (2 : Int)) (cond (r2.2.1 == (0 : Int)) (cond (r4.1 == (3 : Int)) (cond (r4.2.1 == (2 : Int)) (cond (r6.1 == (0 : Int)) (cond (r8.1 == (0 : Int)) ((a23 ([] : List (Int × Int × Unit))).bind fun r12 =>
      cond (r12 == (1 : Int)) ((a14).bind fun r13 =>
      some r13)
      (some false))
      (some false))
      (some false))
      (some false))
      (some false))
      (some false))
      (some false))
      (some false))
      (some false))
      (some false))
      (some false))
      (some false)
theorem k13 (a14 : Option (Bool)) (a23 : (List (Int × Int × Unit)) → Option (Int)) (a26 : (List (Int × Int × Unit)) → (List Int) → Option (Int × Int)) (a34 : (List (Int × Int × Unit)) → Int → Option (Int × Int × Int)) (a36 : (List (Int × Int × Unit)) → Int → Option (Int × Int)) (a38 : (List (Int × Int × Unit)) → Int → Option (Int × Int)) (a47 : Option (List (Int × Int × Unit))) (a48 : (List Int) → Option (List Int)) (N : Nat) : callF (E13 a14 a23 a26 a34 a36 a38 a47 a48) lv13 N en13 c13 (resOf Try.f13) 91 [] [] dec13 = m13 a14 a23 a26 a34 a36 a38 a47 a48 N := by kernel_rfl
theorem ok13 (a14 : Option (Bool)) (a23 : (List (Int × Int × Unit)) → Option (Int)) (a26 : (List (Int × Int × Unit)) → (List Int) → Option (Int × Int)) (a34 : (List (Int × Int × Unit)) → Int → Option (Int × Int × Int)) (a36 : (List (Int × Int × Unit)) → Int → Option (Int × Int)) (a38 : (List (Int × Int × Unit)) → Int → Option (Int × Int)) (a47 : Option (List (Int × Int × Unit))) (a48 : (List Int) → Option (List Int)) (h14 : FnOk Try.prog 14 (F14 a14)) (h23 : FnOk Try.prog 23 (F23 a23)) (h26 : FnOk Try.prog 26 (F26 a26)) (h34 : FnOk Try.prog 34 (F34 a34)) (h36 : FnOk Try.prog 36 (F36 a36)) (h38 : FnOk Try.prog 38 (F38 a38)) (h47 : FnOk Try.prog 47 (F47 a47)) (h48 : FnOk Try.prog 48 (F48 a48)) (a : Option (Bool)) (h : ∀ r, a = some r → (∃ N, m13 a14 a23 a26 a34 a36 a38 a47 a48 N = some r)) : FnOk Try.prog 13 (F13 a) := by
  intro args Of x hx
  simp only [F13] at hx
  split at hx
  · skip
    obtain ⟨N, hN⟩ := h _ hx
    refine lifted (L := [(14, F14 a14), (23, F23 a23), (26, F26 a26), (34, F34 a34), (36, F36 a36), (38, F38 a38), (47, F47 a47), (48, F48 a48)]) (rc := nrc) (fz := nfz) (fn := Try.f13) (by kernel_rfl) (by kernel_rfl) (by kernel_rfl) (by kernel_rfl) rfl ?_ ((k13 a14 a23 a26 a34 a36 a38 a47 a48 N).trans hN) ?_
    · intro p hp; simp only [List.mem_cons, List.not_mem_nil, or_false] at hp; rcases hp with rfl | rfl | rfl | rfl | rfl | rfl | rfl | rfl
      · exact h14
      · exact h23
      · exact h26
      · exact h34
      · exact h36
      · exact h38
      · exact h47
      · exact h48
    · intro l o hd
      simp only [dec13] at hd
      split at hd
      · obtain rfl := Option.some.inj hd; exact ⟨rfl, rfl⟩
      · cases hd
  · cases hx
end Go.Proofs.Ytbblnbolabpfmaa
