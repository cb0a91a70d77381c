import Derived.Test.YtaioadjcdjmkdaaQFI
namespace Go.Proofs.Ytaioadjcdjmkdaa
open Go.RowKit
set_option linter.unusedVariables false
def E5 (a15 : (Int × List (List Int) × Unit) → Option (Bool)) (a16 : Option (Bool)) (a23 : (List Int) → (List Int) → Option (Bool)) (a29 : (Int × List (List Int) × Unit) → Option (List Int × Int)) (a30 : (Int × List (List Int) × Unit) → Option (List Int × Int)) (a31 : (Int × List (List Int) × Unit) → (List Int) → Int → Option (Int)) (a32 : (Int × List (List Int) × Unit) → (List Int) → Int → Option (Int)) : Env := mkE TI TY [(15, F15 a15), (16, F16 a16), (23, F23 a23), (29, F29 a29), (30, F30 a30), (31, F31 a31), (32, F32 a32)] nrc nfz
noncomputable def c5 : Code := bodyOf Try.f5
def lv5 : Nat → Option Norm := norms []
def en5 : End := ⟨[], ⟨[53], [], [], []⟩⟩
def dec5 (l : List TV) (o : List (Nat × TO)) : Option (Bool) := match l, o with | [.dv (.bool) x0], [] => some (x0) | _, _ => none
def m5 (a15 : (Int × List (List Int) × Unit) → Option (Bool)) (a16 : Option (Bool)) (a23 : (List Int) → (List Int) → Option (Bool)) (a29 : (Int × List (List Int) × Unit) → Option (List Int × Int)) (a30 : (Int × List (List Int) × Unit) → Option (List Int × Int)) (a31 : (Int × List (List Int) × Unit) → (List Int) → Int → Option (Int)) (a32 : (Int × List (List Int) × Unit) → (List Int) → Int → Option (Int)) (N : Nat) (p0 : Int × List (List Int) × Unit) (colours1 : List Int) (colour2 : Int) : Option (Bool) :=
      (a15 p0).bind fun r1 =>
      cond (r1) ((a16).bind fun r2 =>
      some r2)
      (cond (decide ((colours1.length : Int) > (40 : Int))) ((a16).bind fun r3 =>
      some r3)
      ((a29 p0).bind fun r4 =>
      (a30 p0).bind fun r5 =>
      (a23 r4.1 r5.1).bind fun r6 =>
      cond (r6) (cond (r4.2 == r5.2) ((a31 p0 colours1 colour2).bind fun r7 =>
      (a32 p0 colours1 colour2).bind fun r8 =>
      cond (r7 == r8) ((a16).bind fun r9 =>
      some r9)
      (some false))
      (some false))
      (some false)))
theorem k5 (a15 : (Int × List (List Int) × Unit) → Option (Bool)) (a16 : Option (Bool)) (a23 : (List Int) → (List Int) → Option (Bool)) (a29 : (Int × List (List Int) × Unit) → Option (List Int × Int)) (a30 : (Int × List (List Int) × Unit) → Option (List Int × Int)) (a31 : (Int × List (List Int) × Unit) → (List Int) → Int → Option (Int)) (a32 : (Int × List (List Int) × Unit) → (List Int) → Int → Option (Int)) (N : Nat) (p0 : Int × List (List Int) × Unit) (colours1 : List Int) (colour2 : Int) : callF (E5 a15 a16 a23 a29 a30 a31 a32) lv5 N en5 c5 (resOf Try.f5) 50 [.dv (.pair (.int .i64) (.pair (.sl (.sl (.int .i64))) (.unit))) p0, .dv (.sl (.int .i64)) colours1, .dv (.int .i64) colour2] [] dec5 = m5 a15 a16 a23 a29 a30 a31 a32 N p0 colours1 colour2 := by kernel_rfl
theorem ok5 (a15 : (Int × List (List Int) × Unit) → Option (Bool)) (a16 : Option (Bool)) (a23 : (List Int) → (List Int) → Option (Bool)) (a29 : (Int × List (List Int) × Unit) → Option (List Int × Int)) (a30 : (Int × List (List Int) × Unit) → Option (List Int × Int)) (a31 : (Int × List (List Int) × Unit) → (List Int) → Int → Option (Int)) (a32 : (Int × List (List Int) × Unit) → (List Int) → Int → Option (Int)) (h15 : FnOk Try.prog 15 (F15 a15)) (h16 : FnOk Try.prog 16 (F16 a16)) (h23 : FnOk Try.prog 23 (F23 a23)) (h29 : FnOk Try.prog 29 (F29 a29)) (h30 : FnOk Try.prog 30 (F30 a30)) (h31 : FnOk Try.prog 31 (F31 a31)) (h32 : FnOk Try.prog 32 (F32 a32)) (a : (Int × List (List Int) × Unit) → (List Int) → Int → Option (Bool)) (h : ∀ p0 colours1 colour2 r, a p0 colours1 colour2 = some r → (∃ N, m5 a15 a16 a23 a29 a30 a31 a32 N p0 colours1 colour2 = some r)) : FnOk Try.prog 5 (F5 a) := by
  intro args Of x hx
  simp only [F5] at hx
  split at hx
  · rename_i p0 colours1 colour2
    obtain ⟨N, hN⟩ := h _ _ _ _ hx
    refine lifted (L := [(15, F15 a15), (16, F16 a16), (23, F23 a23), (29, F29 a29), (30, F30 a30), (31, F31 a31), (32, F32 a32)]) (rc := nrc) (fz := nfz) (fn := Try.f5) (by kernel_rfl) (by kernel_rfl) (by kernel_rfl) (by kernel_rfl) rfl ?_ ((k5 a15 a16 a23 a29 a30 a31 a32 N _ _ _).trans hN) ?_
    · intro p hp; simp only [List.mem_cons, List.not_mem_nil, or_false] at hp; rcases hp with rfl | rfl | rfl | rfl | rfl | rfl | rfl
      · exact h15
      · exact h16
      · exact h23
      · exact h29
      · exact h30
      · exact h31
      · exact h32
    · intro l o hd
      simp only [dec5] at hd
      split at hd
      · obtain rfl := Option.some.inj hd; exact ⟨rfl, rfl⟩
      · cases hd
  · cases hx
end Go.Proofs.Ytaioadjcdjmkdaa
