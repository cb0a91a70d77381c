import Derived.Test.YtaioadjcdjmkdaaQFI
namespace Go.Proofs.Ytaioadjcdjmkdaa
open Go.RowKit
set_option linter.unusedVariables false
def E6 (a15 : (Int × List (List Int) × Unit) → Option (Bool)) (a16 : Option (Bool)) (a23 : (List Int) → (List Int) → Option (Bool)) (a33 : (Int × List (List Int) × Unit) → (List Int) → Option (List Int × Int)) (a34 : (Int × List (List Int) × Unit) → (List Int) → Option (List Int × Int)) (a35 : (Int × List (List Int) × Unit) → Int → Option (Int × Int)) (a36 : (Int × List (List Int) × Unit) → Int → Option (Int × Int)) (a37 : (Int × List (List Int) × Unit) → (List Int) → (List Int) → Option (Int)) (a38 : (Int × List (List Int) × Unit) → (List Int) → (List Int) → Option (Int)) : Env := mkE TI TY [(15, F15 a15), (16, F16 a16), (23, F23 a23), (33, F33 a33), (34, F34 a34), (35, F35 a35), (36, F36 a36), (37, F37 a37), (38, F38 a38)] nrc nfz
noncomputable def c6 : Code := bodyOf Try.f6
def lv6 : Nat → Option Norm := norms []
def en6 : End := ⟨[], ⟨[88], [], [], []⟩⟩
def dec6 (l : List TV) (o : List (Nat × TO)) : Option (Bool) := match l, o with | [.dv (.bool) x0], [] => some (x0) | _, _ => none
def m6 (a15 : (Int × List (List Int) × Unit) → Option (Bool)) (a16 : Option (Bool)) (a23 : (List Int) → (List Int) → Option (Bool)) (a33 : (Int × List (List Int) × Unit) → (List Int) → Option (List Int × Int)) (a34 : (Int × List (List Int) × Unit) → (List Int) → Option (List Int × Int)) (a35 : (Int × List (List Int) × Unit) → Int → Option (Int × Int)) (a36 : (Int × List (List Int) × Unit) → Int → Option (Int × Int)) (a37 : (Int × List (List Int) × Unit) → (List Int) → (List Int) → Option (Int)) (a38 : (Int × List (List Int) × Unit) → (List Int) → (List Int) → Option (Int)) (N : Nat) (p0 : Int × List (List Int) × Unit) (sketch1 : List Int) (sequence2 : List Int) (colour3 : Int) : Option (Bool) :=
      (a15 p0).bind fun r1 =>
      cond (r1) ((a16).bind fun r2 =>
      some r2)
      (cond (decide ((sketch1.length : Int) > (40 : Int))) ((a16).bind fun r3 =>
      some r3)
      (cond (decide ((sequence2.length : Int) > (40 : Int))) ((a16).bind fun r4 =>
      some r4)
      ((a33 p0 sketch1).bind fun r5 =>
      (a34 p0 sketch1).bind fun r6 =>
      (a35 p0 colour3).bind fun r7 =>
      (a36 p0 colour3).bind fun r8 =>
      (a23 r5.1 r6.1).bind fun r9 =>
      cond (r9) (cond (r5.2 == r6.2) (cond (r7.1 == r8.1) (cond (r7.2 == r8.2) ((a37 p0 sketch1 sequence2).bind fun r10 =>
      (a38 p0 sketch1 sequence2).bind fun r11 =>
      cond (r10 == r11) ((a16).bind fun r12 =>
      some r12)
      (some false))
      (some false))
      (some false))
      (some false))
      (some false))))
theorem k6 (a15 : (Int × List (List Int) × Unit) → Option (Bool)) (a16 : Option (Bool)) (a23 : (List Int) → (List Int) → Option (Bool)) (a33 : (Int × List (List Int) × Unit) → (List Int) → Option (List Int × Int)) (a34 : (Int × List (List Int) × Unit) → (List Int) → Option (List Int × Int)) (a35 : (Int × List (List Int) × Unit) → Int → Option (Int × Int)) (a36 : (Int × List (List Int) × Unit) → Int → Option (Int × Int)) (a37 : (Int × List (List Int) × Unit) → (List Int) → (List Int) → Option (Int)) (a38 : (Int × List (List Int) × Unit) → (List Int) → (List Int) → Option (Int)) (N : Nat) (p0 : Int × List (List Int) × Unit) (sketch1 : List Int) (sequence2 : List Int) (colour3 : Int) : callF (E6 a15 a16 a23 a33 a34 a35 a36 a37 a38) lv6 N en6 c6 (resOf Try.f6) 84 [.dv (.pair (.int .i64) (.pair (.sl (.sl (.int .i64))) (.unit))) p0, .dv (.sl (.int .i64)) sketch1, .dv (.sl (.int .i64)) sequence2, .dv (.int .i64) colour3] [] dec6 = m6 a15 a16 a23 a33 a34 a35 a36 a37 a38 N p0 sketch1 sequence2 colour3 := by kernel_rfl
theorem ok6 (a15 : (Int × List (List Int) × Unit) → Option (Bool)) (a16 : Option (Bool)) (a23 : (List Int) → (List Int) → Option (Bool)) (a33 : (Int × List (List Int) × Unit) → (List Int) → Option (List Int × Int)) (a34 : (Int × List (List Int) × Unit) → (List Int) → Option (List Int × Int)) (a35 : (Int × List (List Int) × Unit) → Int → Option (Int × Int)) (a36 : (Int × List (List Int) × Unit) → Int → Option (Int × Int)) (a37 : (Int × List (List Int) × Unit) → (List Int) → (List Int) → Option (Int)) (a38 : (Int × List (List Int) × Unit) → (List Int) → (List Int) → Option (Int)) (h15 : FnOk Try.prog 15 (F15 a15)) (h16 : FnOk Try.prog 16 (F16 a16)) (h23 : FnOk Try.prog 23 (F23 a23)) (h33 : FnOk Try.prog 33 (F33 a33)) (h34 : FnOk Try.prog 34 (F34 a34)) (h35 : FnOk Try.prog 35 (F35 a35)) (h36 : FnOk Try.prog 36 (F36 a36)) (h37 : FnOk Try.prog 37 (F37 a37)) (h38 : FnOk Try.prog 38 (F38 a38)) (a : (Int × List (List Int) × Unit) → (List Int) → (List Int) → Int → Option (Bool)) (h : ∀ p0 sketch1 sequence2 colour3 r, a p0 sketch1 sequence2 colour3 = some r → (∃ N, m6 a15 a16 a23 a33 a34 a35 a36 a37 a38 N p0 sketch1 sequence2 colour3 = some r)) : FnOk Try.prog 6 (F6 a) := by
  intro args Of x hx
  simp only [F6] at hx
  split at hx
  · rename_i p0 sketch1 sequence2 colour3
    obtain ⟨N, hN⟩ := h _ _ _ _ _ hx
    refine lifted (L := [(15, F15 a15), (16, F16 a16), (23, F23 a23), (33, F33 a33), (34, F34 a34), (35, F35 a35), (36, F36 a36), (37, F37 a37), (38, F38 a38)]) (rc := nrc) (fz := nfz) (fn := Try.f6) (by kernel_rfl) (by kernel_rfl) (by kernel_rfl) (by kernel_rfl) rfl ?_ ((k6 a15 a16 a23 a33 a34 a35 a36 a37 a38 N _ _ _ _).trans hN) ?_
    · intro p hp; simp only [List.mem_cons, List.not_mem_nil, or_false] at hp; rcases hp with rfl | rfl | rfl | rfl | rfl | rfl | rfl | rfl | rfl
      · exact h15
      · exact h16
      · exact h23
      · exact h33
      · exact h34
      · exact h35
      · exact h36
      · exact h37
      · exact h38
    · intro l o hd
      simp only [dec6] at hd
      split at hd
      · obtain rfl := Option.some.inj hd; exact ⟨rfl, rfl⟩
      · cases hd
  · cases hx
end Go.Proofs.Ytaioadjcdjmkdaa
