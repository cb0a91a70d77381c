import Derived.Test.YtaioadjcdjmkdaaQFI
namespace Go.Proofs.Ytaioadjcdjmkdaa
open Go.RowKit
set_option linter.unusedVariables false
def E3 (a15 : (Int × List (List Int) × Unit) → Option (Bool)) (a16 : Option (Bool)) (a17 : (Int × List (List Int) × Unit) → (List Int) → Option (List Int × Int)) (a18 : (Int × List (List Int) × Unit) → (List Int) → Option (List Int × Int)) (a19 : (Int × List (List Int) × Unit) → (List Int) → (List Bool) → Option (Int × Int)) (a20 : (Int × List (List Int) × Unit) → (List Int) → (List Bool) → Option (Int × Int)) (a21 : (Int × List (List Int) × Unit) → (List Int) → Option (List Int × Int)) (a22 : (Int × List (List Int) × Unit) → (List Int) → Option (List Int × Int)) (a23 : (List Int) → (List Int) → Option (Bool)) (a24 : (Int × List (List Int) × Unit) → Option (Int)) (a25 : (Int × List (List Int) × Unit) → Option (Int)) : Env := mkE TI TY [(15, F15 a15), (16, F16 a16), (17, F17 a17), (18, F18 a18), (19, F19 a19), (20, F20 a20), (21, F21 a21), (22, F22 a22), (23, F23 a23), (24, F24 a24), (25, F25 a25)] nrc nfz
noncomputable def c3 : Code := bodyOf Try.f3
def lv3 : Nat → Option Norm := norms []
def en3 : End := ⟨[], ⟨[110], [], [], []⟩⟩
def dec3 (l : List TV) (o : List (Nat × TO)) : Option (Bool) := match l, o with | [.dv (.bool) x0], [] => some (x0) | _, _ => none
def m3 (a15 : (Int × List (List Int) × Unit) → Option (Bool)) (a16 : Option (Bool)) (a17 : (Int × List (List Int) × Unit) → (List Int) → Option (List Int × Int)) (a18 : (Int × List (List Int) × Unit) → (List Int) → Option (List Int × Int)) (a19 : (Int × List (List Int) × Unit) → (List Int) → (List Bool) → Option (Int × Int)) (a20 : (Int × List (List Int) × Unit) → (List Int) → (List Bool) → Option (Int × Int)) (a21 : (Int × List (List Int) × Unit) → (List Int) → Option (List Int × Int)) (a22 : (Int × List (List Int) × Unit) → (List Int) → Option (List Int × Int)) (a23 : (List Int) → (List Int) → Option (Bool)) (a24 : (Int × List (List Int) × Unit) → Option (Int)) (a25 : (Int × List (List Int) × Unit) → Option (Int)) (N : Nat) (p0 : Int × List (List Int) × Unit) (sequence1 : List Int) (choice2 : List Bool) : Option (Bool) :=
      (a15 p0).bind fun r1 =>
      cond (r1) ((a16).bind fun r2 =>
      some r2)
      (cond (decide ((sequence1.length : Int) > (40 : Int))) ((a16).bind fun r3 =>
      some r3)
      (cond (decide ((choice2.length : Int) > (40 : Int))) ((a16).bind fun r4 =>
      some r4)
      ((a17 p0 sequence1).bind fun r5 =>
      (a18 p0 sequence1).bind fun r6 =>
      (a19 p0 sequence1 choice2).bind fun r7 =>
      (a20 p0 sequence1 choice2).bind fun r8 =>
      (a21 p0 sequence1).bind fun r9 =>
      (a22 p0 sequence1).bind fun r10 =>
      (a23 r5.1 r6.1).bind fun r11 =>
      cond (r11) (cond (r5.2 == r6.2) (cond (r7.1 == r8.1) (cond (r7.2 == r8.2) ((a23 r9.1 r10.1).bind fun r12 =>
      cond (r12) (cond (r9.2 == r10.2) ((a24 p0).bind fun r13 =>
      (a25 p0).bind fun r14 =>
      cond (r13 == r14) ((a16).bind fun r15 =>
      some r15)
      (some false))
      (some false))
      (some false))
      (some false))
      (some false))
      (some false))
      (some false))))
theorem k3 (a15 : (Int × List (List Int) × Unit) → Option (Bool)) (a16 : Option (Bool)) (a17 : (Int × List (List Int) × Unit) → (List Int) → Option (List Int × Int)) (a18 : (Int × List (List Int) × Unit) → (List Int) → Option (List Int × Int)) (a19 : (Int × List (List Int) × Unit) → (List Int) → (List Bool) → Option (Int × Int)) (a20 : (Int × List (List Int) × Unit) → (List Int) → (List Bool) → Option (Int × Int)) (a21 : (Int × List (List Int) × Unit) → (List Int) → Option (List Int × Int)) (a22 : (Int × List (List Int) × Unit) → (List Int) → Option (List Int × Int)) (a23 : (List Int) → (List Int) → Option (Bool)) (a24 : (Int × List (List Int) × Unit) → Option (Int)) (a25 : (Int × List (List Int) × Unit) → Option (Int)) (N : Nat) (p0 : Int × List (List Int) × Unit) (sequence1 : List Int) (choice2 : List Bool) : callF (E3 a15 a16 a17 a18 a19 a20 a21 a22 a23 a24 a25) lv3 N en3 c3 (resOf Try.f3) 107 [.dv (.pair (.int .i64) (.pair (.sl (.sl (.int .i64))) (.unit))) p0, .dv (.sl (.int .i64)) sequence1, .dv (.sl (.bool)) choice2] [] dec3 = m3 a15 a16 a17 a18 a19 a20 a21 a22 a23 a24 a25 N p0 sequence1 choice2 := by kernel_rfl
theorem ok3 (a15 : (Int × List (List Int) × Unit) → Option (Bool)) (a16 : Option (Bool)) (a17 : (Int × List (List Int) × Unit) → (List Int) → Option (List Int × Int)) (a18 : (Int × List (List Int) × Unit) → (List Int) → Option (List Int × Int)) (a19 : (Int × List (List Int) × Unit) → (List Int) → (List Bool) → Option (Int × Int)) (a20 : (Int × List (List Int) × Unit) → (List Int) → (List Bool) → Option (Int × Int)) (a21 : (Int × List (List Int) × Unit) → (List Int) → Option (List Int × Int)) (a22 : (Int × List (List Int) × Unit) → (List Int) → Option (List Int × Int)) (a23 : (List Int) → (List Int) → Option (Bool)) (a24 : (Int × List (List Int) × Unit) → Option (Int)) (a25 : (Int × List (List Int) × Unit) → Option (Int)) (h15 : FnOk Try.prog 15 (F15 a15)) (h16 : FnOk Try.prog 16 (F16 a16)) (h17 : FnOk Try.prog 17 (F17 a17)) (h18 : FnOk Try.prog 18 (F18 a18)) (h19 : FnOk Try.prog 19 (F19 a19)) (h20 : FnOk Try.prog 20 (F20 a20)) (h21 : FnOk Try.prog 21 (F21 a21)) (h22 : FnOk Try.prog 22 (F22 a22)) (h23 : FnOk Try.prog 23 (F23 a23)) (h24 : FnOk Try.prog 24 (F24 a24)) (h25 : FnOk Try.prog 25 (F25 a25)) (a : (Int × List (List Int) × Unit) → (List Int) → (List Bool) → Option (Bool)) (h : ∀ p0 sequence1 choice2 r, a p0 sequence1 choice2 = some r → (∃ N, m3 a15 a16 a17 a18 a19 a20 a21 a22 a23 a24 a25 N p0 sequence1 choice2 = some r)) : FnOk Try.prog 3 (F3 a) := by
  intro args Of x hx
  simp only [F3] at hx
  split at hx
  · rename_i p0 sequence1 choice2
    obtain ⟨N, hN⟩ := h _ _ _ _ hx
    refine lifted (L := [(15, F15 a15), (16, F16 a16), (17, F17 a17), (18, F18 a18), (19, F19 a19), (20, F20 a20), (21, F21 a21), (22, F22 a22), (23, F23 a23), (24, F24 a24), (25, F25 a25)]) (rc := nrc) (fz := nfz) (fn := Try.f3) (by kernel_rfl) (by kernel_rfl) (by kernel_rfl) (by kernel_rfl) rfl ?_ ((k3 a15 a16 a17 a18 a19 a20 a21 a22 a23 a24 a25 N _ _ _).trans hN) ?_
    · intro p hp; simp only [List.mem_cons, List.not_mem_nil, or_false] at hp; rcases hp with rfl | rfl | rfl | rfl | rfl | rfl | rfl | rfl | rfl | rfl | rfl
      · exact h15
      · exact h16
      · exact h17
      · exact h18
      · exact h19
      · exact h20
      · exact h21
      · exact h22
      · exact h23
      · exact h24
      · exact h25
    · intro l o hd
      simp only [dec3] at hd
      split at hd
      · obtain rfl := Option.some.inj hd; exact ⟨rfl, rfl⟩
      · cases hd
  · cases hx
end Go.Proofs.Ytaioadjcdjmkdaa
