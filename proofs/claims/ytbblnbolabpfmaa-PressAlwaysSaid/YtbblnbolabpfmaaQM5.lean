import Derived.Test.YtbblnbolabpfmaaQFI
namespace Go.Proofs.Ytbblnbolabpfmaa
open Go.RowKit
set_option linter.unusedVariables false
def E5 (a14 : Option (Bool)) (a15 : (List (Int × Int × Unit)) → Option (List (Int × Int × Unit))) (a22 : (List Int) → (List Int) → Option (Bool)) (a30 : (List (Int × Int × Unit)) → Option (List Int × Int)) (a31 : (List (Int × Int × Unit)) → Option (List Int × Int)) (a32 : (List (Int × Int × Unit)) → Option (List Int × Int)) (a33 : (List (Int × Int × Unit)) → Option (List Int × Int)) : Env := mkE TI TY [(14, F14 a14), (15, F15 a15), (22, F22 a22), (30, F30 a30), (31, F31 a31), (32, F32 a32), (33, F33 a33)] nrc nfz
noncomputable def c5 : Code := bodyOf Try.f5
def lv5 : Nat → Option Norm := norms []
def en5 : End := ⟨[], ⟨[59], [], [], []⟩⟩
def dec5 (l : List TV) (o : List (Nat × TO)) : Option (Bool) := match l, o with | [.dv (.bool) x0], [] => some (x0) | _, _ => none
def m5 (a14 : Option (Bool)) (a15 : (List (Int × Int × Unit)) → Option (List (Int × Int × Unit))) (a22 : (List Int) → (List Int) → Option (Bool)) (a30 : (List (Int × Int × Unit)) → Option (List Int × Int)) (a31 : (List (Int × Int × Unit)) → Option (List Int × Int)) (a32 : (List (Int × Int × Unit)) → Option (List Int × Int)) (a33 : (List (Int × Int × Unit)) → Option (List Int × Int)) (N : Nat) (l0 : List (Int × Int × Unit)) : Option (Bool) :=
      cond (decide ((l0.length : Int) > (40 : Int))) ((a14).bind fun r1 =>
      some r1)
      ((a15 l0).bind fun r2 =>
      (a30 l0).bind fun r3 =>
      (a31 r2).bind fun r4 =>
      (a32 l0).bind fun r5 =>
      (a33 r2).bind fun r6 =>
      (a22 r3.1 r4.1).bind fun r7 =>
      cond (r7) (cond (r3.2 == r4.2) ((a22 r5.1 r6.1).bind fun r8 =>
      cond (r8) (cond (r5.2 == r6.2) ((a14).bind fun r9 =>
      some r9)
      (some false))
      (some false))
      (some false))
      (some false))
theorem k5 (a14 : Option (Bool)) (a15 : (List (Int × Int × Unit)) → Option (List (Int × Int × Unit))) (a22 : (List Int) → (List Int) → Option (Bool)) (a30 : (List (Int × Int × Unit)) → Option (List Int × Int)) (a31 : (List (Int × Int × Unit)) → Option (List Int × Int)) (a32 : (List (Int × Int × Unit)) → Option (List Int × Int)) (a33 : (List (Int × Int × Unit)) → Option (List Int × Int)) (N : Nat) (l0 : List (Int × Int × Unit)) : callF (E5 a14 a15 a22 a30 a31 a32 a33) lv5 N en5 c5 (resOf Try.f5) 58 [.dv (.sl (.pair (.int .i64) (.pair (.int .i64) (.unit)))) l0] [] dec5 = m5 a14 a15 a22 a30 a31 a32 a33 N l0 := by kernel_rfl
theorem ok5 (a14 : Option (Bool)) (a15 : (List (Int × Int × Unit)) → Option (List (Int × Int × Unit))) (a22 : (List Int) → (List Int) → Option (Bool)) (a30 : (List (Int × Int × Unit)) → Option (List Int × Int)) (a31 : (List (Int × Int × Unit)) → Option (List Int × Int)) (a32 : (List (Int × Int × Unit)) → Option (List Int × Int)) (a33 : (List (Int × Int × Unit)) → Option (List Int × Int)) (h14 : FnOk Try.prog 14 (F14 a14)) (h15 : FnOk Try.prog 15 (F15 a15)) (h22 : FnOk Try.prog 22 (F22 a22)) (h30 : FnOk Try.prog 30 (F30 a30)) (h31 : FnOk Try.prog 31 (F31 a31)) (h32 : FnOk Try.prog 32 (F32 a32)) (h33 : FnOk Try.prog 33 (F33 a33)) (a : (List (Int × Int × Unit)) → Option (Bool)) (h : ∀ l0 r, a l0 = some r → (∃ N, m5 a14 a15 a22 a30 a31 a32 a33 N l0 = some r)) : FnOk Try.prog 5 (F5 a) := by
  intro args Of x hx
  simp only [F5] at hx
  split at hx
  · rename_i l0
    obtain ⟨N, hN⟩ := h _ _ hx
    refine lifted (L := [(14, F14 a14), (15, F15 a15), (22, F22 a22), (30, F30 a30), (31, F31 a31), (32, F32 a32), (33, F33 a33)]) (rc := nrc) (fz := nfz) (fn := Try.f5) (by kernel_rfl) (by kernel_rfl) (by kernel_rfl) (by kernel_rfl) rfl ?_ ((k5 a14 a15 a22 a30 a31 a32 a33 N _).trans hN) ?_
    · intro p hp; simp only [List.mem_cons, List.not_mem_nil, or_false] at hp; rcases hp with rfl | rfl | rfl | rfl | rfl | rfl | rfl
      · exact h14
      · exact h15
      · exact h22
      · exact h30
      · exact h31
      · exact h32
      · exact h33
    · intro l o hd
      simp only [dec5] at hd
      split at hd
      · obtain rfl := Option.some.inj hd; exact ⟨rfl, rfl⟩
      · cases hd
  · cases hx
end Go.Proofs.Ytbblnbolabpfmaa
