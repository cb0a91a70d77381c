import Derived.Test.YtaioadjcdjmkdaaQFI
namespace Go.Proofs.Ytaioadjcdjmkdaa
open Go.RowKit
set_option linter.unusedVariables false
def E7 (a15 : (Int × List (List Int) × Unit) → Option (Bool)) (a16 : Option (Bool)) (a23 : (List Int) → (List Int) → Option (Bool)) (a39 : (Int × List (List Int) × Unit) → (List Int) → Option (List Int × Int × Int)) (a40 : (Int × List (List Int) × Unit) → (List Int) → Option (List Int × Int × Int)) : Env := mkE TI TY [(15, F15 a15), (16, F16 a16), (23, F23 a23), (39, F39 a39), (40, F40 a40)] nrc nfz
noncomputable def c7 : Code := bodyOf Try.f7
def lv7 : Nat → Option Norm := norms []
def en7 : End := ⟨[], ⟨[49], [], [], []⟩⟩
def dec7 (l : List TV) (o : List (Nat × TO)) : Option (Bool) := match l, o with | [.dv (.bool) x0], [] => some (x0) | _, _ => none
def m7 (a15 : (Int × List (List Int) × Unit) → Option (Bool)) (a16 : Option (Bool)) (a23 : (List Int) → (List Int) → Option (Bool)) (a39 : (Int × List (List Int) × Unit) → (List Int) → Option (List Int × Int × Int)) (a40 : (Int × List (List Int) × Unit) → (List Int) → Option (List Int × Int × Int)) (N : Nat) (p0 : Int × List (List Int) × Unit) (stones1 : List Int) : Option (Bool) :=
      (a15 p0).bind fun r1 =>
      cond (r1) ((a16).bind fun r2 =>
      some r2)
      (cond (decide ((stones1.length : Int) > (40 : Int))) ((a16).bind fun r3 =>
      some r3)
      ((a39 p0 stones1).bind fun r4 =>
      (a40 p0 stones1).bind fun r5 =>
      (a23 r4.1 r5.1).bind fun r6 =>
      cond (r6) (cond (r4.2.1 == r5.2.1) (cond (r4.2.2 == r5.2.2) ((a16).bind fun r7 =>
      some r7)
      (some false))
      (some false))
      (some false)))
theorem k7 (a15 : (Int × List (List Int) × Unit) → Option (Bool)) (a16 : Option (Bool)) (a23 : (List Int) → (List Int) → Option (Bool)) (a39 : (Int × List (List Int) × Unit) → (List Int) → Option (List Int × Int × Int)) (a40 : (Int × List (List Int) × Unit) → (List Int) → Option (List Int × Int × Int)) (N : Nat) (p0 : Int × List (List Int) × Unit) (stones1 : List Int) : callF (E7 a15 a16 a23 a39 a40) lv7 N en7 c7 (resOf Try.f7) 47 [.dv (.pair (.int .i64) (.pair (.sl (.sl (.int .i64))) (.unit))) p0, .dv (.sl (.int .i64)) stones1] [] dec7 = m7 a15 a16 a23 a39 a40 N p0 stones1 := by kernel_rfl
theorem ok7 (a15 : (Int × List (List Int) × Unit) → Option (Bool)) (a16 : Option (Bool)) (a23 : (List Int) → (List Int) → Option (Bool)) (a39 : (Int × List (List Int) × Unit) → (List Int) → Option (List Int × Int × Int)) (a40 : (Int × List (List Int) × Unit) → (List Int) → Option (List Int × Int × Int)) (h15 : FnOk Try.prog 15 (F15 a15)) (h16 : FnOk Try.prog 16 (F16 a16)) (h23 : FnOk Try.prog 23 (F23 a23)) (h39 : FnOk Try.prog 39 (F39 a39)) (h40 : FnOk Try.prog 40 (F40 a40)) (a : (Int × List (List Int) × Unit) → (List Int) → Option (Bool)) (h : ∀ p0 stones1 r, a p0 stones1 = some r → (∃ N, m7 a15 a16 a23 a39 a40 N p0 stones1 = some r)) : FnOk Try.prog 7 (F7 a) := by
  intro args Of x hx
  simp only [F7] at hx
  split at hx
  · rename_i p0 stones1
    obtain ⟨N, hN⟩ := h _ _ _ hx
    refine lifted (L := [(15, F15 a15), (16, F16 a16), (23, F23 a23), (39, F39 a39), (40, F40 a40)]) (rc := nrc) (fz := nfz) (fn := Try.f7) (by kernel_rfl) (by kernel_rfl) (by kernel_rfl) (by kernel_rfl) rfl ?_ ((k7 a15 a16 a23 a39 a40 N _ _).trans hN) ?_
    · intro p hp; simp only [List.mem_cons, List.not_mem_nil, or_false] at hp; rcases hp with rfl | rfl | rfl | rfl | rfl
      · exact h15
      · exact h16
      · exact h23
      · exact h39
      · exact h40
    · intro l o hd
      simp only [dec7] at hd
      split at hd
      · obtain rfl := Option.some.inj hd; exact ⟨rfl, rfl⟩
      · cases hd
  · cases hx
end Go.Proofs.Ytaioadjcdjmkdaa
