import Derived.Test.YtbblnbolabpfmaaQFI
namespace Go.Proofs.Ytbblnbolabpfmaa
open Go.RowKit
set_option linter.unusedVariables false
def E4 (a14 : Option (Bool)) (a15 : (List (Int × Int × Unit)) → Option (List (Int × Int × Unit))) (a24 : (List (Int × Int × Unit)) → Option (Int)) (a25 : (List (Int × Int × Unit)) → Option (List Int × Int)) (a26 : (List (Int × Int × Unit)) → (List Int) → Option (Int × Int)) (a27 : (List (Int × Int × Unit)) → (List Int) → Option (Int × Int)) (a28 : (List (Int × Int × Unit)) → (List Int) → Option (Int)) (a29 : (List (Int × Int × Unit)) → (List Int) → Option (Int)) : Env := mkE TI TY [(14, F14 a14), (15, F15 a15), (24, F24 a24), (25, F25 a25), (26, F26 a26), (27, F27 a27), (28, F28 a28), (29, F29 a29)] nrc nfz
noncomputable def c4 : Code := bodyOf Try.f4
def lv4 : Nat → Option Norm := norms []
def en4 : End := ⟨[], ⟨[80], [], [], []⟩⟩
def dec4 (l : List TV) (o : List (Nat × TO)) : Option (Bool) := match l, o with | [.dv (.bool) x0], [] => some (x0) | _, _ => none
def m4 (a14 : Option (Bool)) (a15 : (List (Int × Int × Unit)) → Option (List (Int × Int × Unit))) (a24 : (List (Int × Int × Unit)) → Option (Int)) (a25 : (List (Int × Int × Unit)) → Option (List Int × Int)) (a26 : (List (Int × Int × Unit)) → (List Int) → Option (Int × Int)) (a27 : (List (Int × Int × Unit)) → (List Int) → Option (Int × Int)) (a28 : (List (Int × Int × Unit)) → (List Int) → Option (Int)) (a29 : (List (Int × Int × Unit)) → (List Int) → Option (Int)) (N : Nat) (l0 : List (Int × Int × Unit)) (plan1 : List Int) : Option (Bool) :=
      cond (decide ((l0.length : Int) > (40 : Int))) ((a14).bind fun r1 =>
      some r1)
      (cond (decide ((plan1.length : Int) > (40 : Int))) ((a14).bind fun r2 =>
      some r2)
      ((a15 l0).bind fun r3 =>
      (a25 l0).bind fun r4 =>
      (a24 r3).bind fun r5 =>
      (a26 l0 plan1).bind fun r6 =>
      (a27 r3 plan1).bind fun r7 =>
      cond (r4.2 != r5) (some false)
      (cond (r6.1 != r7.1) (some false)
      (cond (r6.2 != r7.2) (some false)
      ((a28 l0 plan1).bind fun r8 =>
      (a29 r3 plan1).bind fun r9 =>
      cond (r8 != r9) (some false)
      (cond (r5 != (0 : Int)) (cond ((r4.1.length : Int) == (0 : Int)) ((a14).bind fun r10 =>
      some r10)
      (some false))
      ((a29 r3 r4.1).bind fun r11 =>
      cond (r11 == (0 : Int)) ((a14).bind fun r12 =>
      some r12)
      (some false))))))))
theorem k4 (a14 : Option (Bool)) (a15 : (List (Int × Int × Unit)) → Option (List (Int × Int × Unit))) (a24 : (List (Int × Int × Unit)) → Option (Int)) (a25 : (List (Int × Int × Unit)) → Option (List Int × Int)) (a26 : (List (Int × Int × Unit)) → (List Int) → Option (Int × Int)) (a27 : (List (Int × Int × Unit)) → (List Int) → Option (Int × Int)) (a28 : (List (Int × Int × Unit)) → (List Int) → Option (Int)) (a29 : (List (Int × Int × Unit)) → (List Int) → Option (Int)) (N : Nat) (l0 : List (Int × Int × Unit)) (plan1 : List Int) : callF (E4 a14 a15 a24 a25 a26 a27 a28 a29) lv4 N en4 c4 (resOf Try.f4) 78 [.dv (.sl (.pair (.int .i64) (.pair (.int .i64) (.unit)))) l0, .dv (.sl (.int .i64)) plan1] [] dec4 = m4 a14 a15 a24 a25 a26 a27 a28 a29 N l0 plan1 := by kernel_rfl
theorem ok4 (a14 : Option (Bool)) (a15 : (List (Int × Int × Unit)) → Option (List (Int × Int × Unit))) (a24 : (List (Int × Int × Unit)) → Option (Int)) (a25 : (List (Int × Int × Unit)) → Option (List Int × Int)) (a26 : (List (Int × Int × Unit)) → (List Int) → Option (Int × Int)) (a27 : (List (Int × Int × Unit)) → (List Int) → Option (Int × Int)) (a28 : (List (Int × Int × Unit)) → (List Int) → Option (Int)) (a29 : (List (Int × Int × Unit)) → (List Int) → Option (Int)) (h14 : FnOk Try.prog 14 (F14 a14)) (h15 : FnOk Try.prog 15 (F15 a15)) (h24 : FnOk Try.prog 24 (F24 a24)) (h25 : FnOk Try.prog 25 (F25 a25)) (h26 : FnOk Try.prog 26 (F26 a26)) (h27 : FnOk Try.prog 27 (F27 a27)) (h28 : FnOk Try.prog 28 (F28 a28)) (h29 : FnOk Try.prog 29 (F29 a29)) (a : (List (Int × Int × Unit)) → (List Int) → Option (Bool)) (h : ∀ l0 plan1 r, a l0 plan1 = some r → (∃ N, m4 a14 a15 a24 a25 a26 a27 a28 a29 N l0 plan1 = some r)) : FnOk Try.prog 4 (F4 a) := by
  intro args Of x hx
  simp only [F4] at hx
  split at hx
  · rename_i l0 plan1
    obtain ⟨N, hN⟩ := h _ _ _ hx
    refine lifted (L := [(14, F14 a14), (15, F15 a15), (24, F24 a24), (25, F25 a25), (26, F26 a26), (27, F27 a27), (28, F28 a28), (29, F29 a29)]) (rc := nrc) (fz := nfz) (fn := Try.f4) (by kernel_rfl) (by kernel_rfl) (by kernel_rfl) (by kernel_rfl) rfl ?_ ((k4 a14 a15 a24 a25 a26 a27 a28 a29 N _ _).trans hN) ?_
    · intro p hp; simp only [List.mem_cons, List.not_mem_nil, or_false] at hp; rcases hp with rfl | rfl | rfl | rfl | rfl | rfl | rfl | rfl
      · exact h14
      · exact h15
      · exact h24
      · exact h25
      · exact h26
      · exact h27
      · exact h28
      · exact h29
    · intro l o hd
      simp only [dec4] at hd
      split at hd
      · obtain rfl := Option.some.inj hd; exact ⟨rfl, rfl⟩
      · cases hd
  · cases hx
end Go.Proofs.Ytbblnbolabpfmaa
