import Derived.Test.YtaioadjcdjmkdaaQFI
namespace Go.Proofs.Ytaioadjcdjmkdaa
open Go.RowKit
set_option linter.unusedVariables false
def E4 (a15 : (Int × List (List Int) × Unit) → Option (Bool)) (a16 : Option (Bool)) (a20 : (Int × List (List Int) × Unit) → (List Int) → (List Bool) → Option (Int × Int)) (a26 : (Int × List (List Int) × Unit) → (List Int) → Int → Option (List Bool × Int)) (a27 : (Int × List (List Int) × Unit) → (List Int) → Int → Option (Int × Int)) (a28 : (List Bool) → Option (Int)) : Env := mkE TI TY [(15, F15 a15), (16, F16 a16), (20, F20 a20), (26, F26 a26), (27, F27 a27), (28, F28 a28)] nrc nfz
noncomputable def c4 : Code := bodyOf Try.f4
def lv4 : Nat → Option Norm := norms []
def en4 : End := ⟨[], ⟨[71], [], [], []⟩⟩
def dec4 (l : List TV) (o : List (Nat × TO)) : Option (Bool) := match l, o with | [.dv (.bool) x0], [] => some (x0) | _, _ => none
def m4 (a15 : (Int × List (List Int) × Unit) → Option (Bool)) (a16 : Option (Bool)) (a20 : (Int × List (List Int) × Unit) → (List Int) → (List Bool) → Option (Int × Int)) (a26 : (Int × List (List Int) × Unit) → (List Int) → Int → Option (List Bool × Int)) (a27 : (Int × List (List Int) × Unit) → (List Int) → Int → Option (Int × Int)) (a28 : (List Bool) → Option (Int)) (N : Nat) (p0 : Int × List (List Int) × Unit) (sequence1 : List Int) (colour2 : Int) : Option (Bool) :=
      (a15 p0).bind fun r1 =>
      cond (r1) ((a16).bind fun r2 =>
      some r2)
      (cond (decide ((sequence1.length : Int) > (40 : Int))) ((a16).bind fun r3 =>
      some r3)
      ((a26 p0 sequence1 colour2).bind fun r4 =>
      (a27 p0 sequence1 colour2).bind fun r5 =>
      cond (r4.2 != r5.2) (some false)
      (cond (r5.2 != (0 : Int)) (cond ((r4.1.length : Int) == (0 : Int)) ((a16).bind fun r6 =>
      some r6)
      (some false))
      ((a20 p0 sequence1 r4.1).bind fun r7 =>
      cond (r7.2 == (0 : Int)) (cond (r7.1 == colour2) ((a28 r4.1).bind fun r8 =>
      cond (r8 == r5.1) ((a16).bind fun r9 =>
      some r9)
      (some false))
      (some false))
      (some false)))))
theorem k4 (a15 : (Int × List (List Int) × Unit) → Option (Bool)) (a16 : Option (Bool)) (a20 : (Int × List (List Int) × Unit) → (List Int) → (List Bool) → Option (Int × Int)) (a26 : (Int × List (List Int) × Unit) → (List Int) → Int → Option (List Bool × Int)) (a27 : (Int × List (List Int) × Unit) → (List Int) → Int → Option (Int × Int)) (a28 : (List Bool) → Option (Int)) (N : Nat) (p0 : Int × List (List Int) × Unit) (sequence1 : List Int) (colour2 : Int) : callF (E4 a15 a16 a20 a26 a27 a28) lv4 N en4 c4 (resOf Try.f4) 68 [.dv (.pair (.int .i64) (.pair (.sl (.sl (.int .i64))) (.unit))) p0, .dv (.sl (.int .i64)) sequence1, .dv (.int .i64) colour2] [] dec4 = m4 a15 a16 a20 a26 a27 a28 N p0 sequence1 colour2 := by kernel_rfl
theorem ok4 (a15 : (Int × List (List Int) × Unit) → Option (Bool)) (a16 : Option (Bool)) (a20 : (Int × List (List Int) × Unit) → (List Int) → (List Bool) → Option (Int × Int)) (a26 : (Int × List (List Int) × Unit) → (List Int) → Int → Option (List Bool × Int)) (a27 : (Int × List (List Int) × Unit) → (List Int) → Int → Option (Int × Int)) (a28 : (List Bool) → Option (Int)) (h15 : FnOk Try.prog 15 (F15 a15)) (h16 : FnOk Try.prog 16 (F16 a16)) (h20 : FnOk Try.prog 20 (F20 a20)) (h26 : FnOk Try.prog 26 (F26 a26)) (h27 : FnOk Try.prog 27 (F27 a27)) (h28 : FnOk Try.prog 28 (F28 a28)) (a : (Int × List (List Int) × Unit) → (List Int) → Int → Option (Bool)) (h : ∀ p0 sequence1 colour2 r, a p0 sequence1 colour2 = some r → (∃ N, m4 a15 a16 a20 a26 a27 a28 N p0 sequence1 colour2 = some r)) : FnOk Try.prog 4 (F4 a) := by
  intro args Of x hx
  simp only [F4] at hx
  split at hx
  · rename_i p0 sequence1 colour2
    obtain ⟨N, hN⟩ := h _ _ _ _ hx
    refine lifted (L := [(15, F15 a15), (16, F16 a16), (20, F20 a20), (26, F26 a26), (27, F27 a27), (28, F28 a28)]) (rc := nrc) (fz := nfz) (fn := Try.f4) (by kernel_rfl) (by kernel_rfl) (by kernel_rfl) (by kernel_rfl) rfl ?_ ((k4 a15 a16 a20 a26 a27 a28 N _ _ _).trans hN) ?_
    · intro p hp; simp only [List.mem_cons, List.not_mem_nil, or_false] at hp; rcases hp with rfl | rfl | rfl | rfl | rfl | rfl
      · exact h15
      · exact h16
      · exact h20
      · exact h26
      · exact h27
      · exact h28
    · intro l o hd
      simp only [dec4] at hd
      split at hd
      · obtain rfl := Option.some.inj hd; exact ⟨rfl, rfl⟩
      · cases hd
  · cases hx
end Go.Proofs.Ytaioadjcdjmkdaa
