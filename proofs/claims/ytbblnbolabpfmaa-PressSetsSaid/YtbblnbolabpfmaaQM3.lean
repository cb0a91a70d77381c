import Derived.Test.YtbblnbolabpfmaaQFI
namespace Go.Proofs.Ytbblnbolabpfmaa
open Go.RowKit
set_option linter.unusedVariables false
def E3 (a14 : Option (Bool)) (a15 : (List (Int × Int × Unit)) → Option (List (Int × Int × Unit))) (a16 : (List (Int × Int × Unit)) → (List Int) → Option (Int × Int)) (a17 : (List (Int × Int × Unit)) → (List Int) → Option (Int × Int)) (a18 : (List (Int × Int × Unit)) → Option (Int × Int)) (a19 : (List (Int × Int × Unit)) → Option (Int × Int)) (a20 : (List (Int × Int × Unit)) → Option (List Int × Int)) (a21 : (List (Int × Int × Unit)) → Option (List Int × Int)) (a22 : (List Int) → (List Int) → Option (Bool)) (a23 : (List (Int × Int × Unit)) → Option (Int)) (a24 : (List (Int × Int × Unit)) → Option (Int)) : Env := mkE TI TY [(14, F14 a14), (15, F15 a15), (16, F16 a16), (17, F17 a17), (18, F18 a18), (19, F19 a19), (20, F20 a20), (21, F21 a21), (22, F22 a22), (23, F23 a23), (24, F24 a24)] nrc nfz
noncomputable def c3 : Code := bodyOf Try.f3
def lv3 : Nat → Option Norm := norms []
def en3 : End := ⟨[], ⟨[99], [], [], []⟩⟩
def dec3 (l : List TV) (o : List (Nat × TO)) : Option (Bool) := match l, o with | [.dv (.bool) x0], [] => some (x0) | _, _ => none
def m3 (a14 : Option (Bool)) (a15 : (List (Int × Int × Unit)) → Option (List (Int × Int × Unit))) (a16 : (List (Int × Int × Unit)) → (List Int) → Option (Int × Int)) (a17 : (List (Int × Int × Unit)) → (List Int) → Option (Int × Int)) (a18 : (List (Int × Int × Unit)) → Option (Int × Int)) (a19 : (List (Int × Int × Unit)) → Option (Int × Int)) (a20 : (List (Int × Int × Unit)) → Option (List Int × Int)) (a21 : (List (Int × Int × Unit)) → Option (List Int × Int)) (a22 : (List Int) → (List Int) → Option (Bool)) (a23 : (List (Int × Int × Unit)) → Option (Int)) (a24 : (List (Int × Int × Unit)) → Option (Int)) (N : Nat) (l0 : List (Int × Int × Unit)) (set1 : List Int) : Option (Bool) :=
      cond (decide ((l0.length : Int) > (40 : Int))) ((a14).bind fun r1 =>
      some r1)
      (cond (decide ((set1.length : Int) > (40 : Int))) ((a14).bind fun r2 =>
      some r2)
      ((a15 l0).bind fun r3 =>
      (a16 l0 set1).bind fun r4 =>
      (a17 r3 set1).bind fun r5 =>
      (a18 l0).bind fun r6 =>
      (a19 r3).bind fun r7 =>
      (a20 l0).bind fun r8 =>
      (a21 r3).bind fun r9 =>
      cond (r4.1 == r5.1) (cond (r4.2 == r5.2) (cond (r6.1 == r7.1) (cond (r6.2 == r7.2) ((a22 r8.1 r9.1).bind fun r10 =>
      cond (r10) (cond (r8.2 == r9.2) ((a23 l0).bind fun r11 =>
      (a24 r3).bind fun r12 =>
      cond (r11 == r12) ((a14).bind fun r13 =>
      some r13)
      (some false))
      (some false))
      (some false))
      (some false))
      (some false))
      (some false))
      (some false)))
theorem k3 (a14 : Option (Bool)) (a15 : (List (Int × Int × Unit)) → Option (List (Int × Int × Unit))) (a16 : (List (Int × Int × Unit)) → (List Int) → Option (Int × Int)) (a17 : (List (Int × Int × Unit)) → (List Int) → Option (Int × Int)) (a18 : (List (Int × Int × Unit)) → Option (Int × Int)) (a19 : (List (Int × Int × Unit)) → Option (Int × Int)) (a20 : (List (Int × Int × Unit)) → Option (List Int × Int)) (a21 : (List (Int × Int × Unit)) → Option (List Int × Int)) (a22 : (List Int) → (List Int) → Option (Bool)) (a23 : (List (Int × Int × Unit)) → Option (Int)) (a24 : (List (Int × Int × Unit)) → Option (Int)) (N : Nat) (l0 : List (Int × Int × Unit)) (set1 : List Int) : callF (E3 a14 a15 a16 a17 a18 a19 a20 a21 a22 a23 a24) lv3 N en3 c3 (resOf Try.f3) 97 [.dv (.sl (.pair (.int .i64) (.pair (.int .i64) (.unit)))) l0, .dv (.sl (.int .i64)) set1] [] dec3 = m3 a14 a15 a16 a17 a18 a19 a20 a21 a22 a23 a24 N l0 set1 := by kernel_rfl
theorem ok3 (a14 : Option (Bool)) (a15 : (List (Int × Int × Unit)) → Option (List (Int × Int × Unit))) (a16 : (List (Int × Int × Unit)) → (List Int) → Option (Int × Int)) (a17 : (List (Int × Int × Unit)) → (List Int) → Option (Int × Int)) (a18 : (List (Int × Int × Unit)) → Option (Int × Int)) (a19 : (List (Int × Int × Unit)) → Option (Int × Int)) (a20 : (List (Int × Int × Unit)) → Option (List Int × Int)) (a21 : (List (Int × Int × Unit)) → Option (List Int × Int)) (a22 : (List Int) → (List Int) → Option (Bool)) (a23 : (List (Int × Int × Unit)) → Option (Int)) (a24 : (List (Int × Int × Unit)) → Option (Int)) (h14 : FnOk Try.prog 14 (F14 a14)) (h15 : FnOk Try.prog 15 (F15 a15)) (h16 : FnOk Try.prog 16 (F16 a16)) (h17 : FnOk Try.prog 17 (F17 a17)) (h18 : FnOk Try.prog 18 (F18 a18)) (h19 : FnOk Try.prog 19 (F19 a19)) (h20 : FnOk Try.prog 20 (F20 a20)) (h21 : FnOk Try.prog 21 (F21 a21)) (h22 : FnOk Try.prog 22 (F22 a22)) (h23 : FnOk Try.prog 23 (F23 a23)) (h24 : FnOk Try.prog 24 (F24 a24)) (a : (List (Int × Int × Unit)) → (List Int) → Option (Bool)) (h : ∀ l0 set1 r, a l0 set1 = some r → (∃ N, m3 a14 a15 a16 a17 a18 a19 a20 a21 a22 a23 a24 N l0 set1 = some r)) : FnOk Try.prog 3 (F3 a) := by
  intro args Of x hx
  simp only [F3] at hx
  split at hx
  · rename_i l0 set1
    obtain ⟨N, hN⟩ := h _ _ _ hx
    refine lifted (L := [(14, F14 a14), (15, F15 a15), (16, F16 a16), (17, F17 a17), (18, F18 a18), (19, F19 a19), (20, F20 a20), (21, F21 a21), (22, F22 a22), (23, F23 a23), (24, F24 a24)]) (rc := nrc) (fz := nfz) (fn := Try.f3) (by kernel_rfl) (by kernel_rfl) (by kernel_rfl) (by kernel_rfl) rfl ?_ ((k3 a14 a15 a16 a17 a18 a19 a20 a21 a22 a23 a24 N _ _).trans hN) ?_
    · intro p hp; simp only [List.mem_cons, List.not_mem_nil, or_false] at hp; rcases hp with rfl | rfl | rfl | rfl | rfl | rfl | rfl | rfl | rfl | rfl | rfl
      · exact h14
      · exact h15
      · exact h16
      · exact h17
      · exact h18
      · exact h19
      · exact h20
      · exact h21
      · exact h22
      · exact h23
      · exact h24
    · intro l o hd
      simp only [dec3] at hd
      split at hd
      · obtain rfl := Option.some.inj hd; exact ⟨rfl, rfl⟩
      · cases hd
  · cases hx
end Go.Proofs.Ytbblnbolabpfmaa
