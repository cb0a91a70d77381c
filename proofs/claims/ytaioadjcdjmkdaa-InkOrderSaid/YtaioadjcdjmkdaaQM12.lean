import Derived.Test.YtaioadjcdjmkdaaQFI
namespace Go.Proofs.Ytaioadjcdjmkdaa
open Go.RowKit
set_option linter.unusedVariables false
def E12 (a16 : Option (Bool)) (a23 : (List Int) → (List Int) → Option (Bool)) (a39 : (Int × List (List Int) × Unit) → (List Int) → Option (List Int × Int × Int)) (a41 : (Int × List (List Int) × Unit) → Option (Int × List (List Int) × Unit)) (a42 : (Int × List (List Int) × Unit) → (List Int) → Int → Option (List Int)) (a50c : (List Int) → (List Int) → (List (Int × List (List Int) × Unit)) → Int → (List Int) → Option (List (Int × List (List Int) × Unit) × Int × List Int)) : Env := mkE TI TY [(16, F16 a16), (23, F23 a23), (39, F39 a39), (41, F41 a41), (42, F42 a42), (50, F50c a50c)] (fun i => ([(7, [some (.sl (.int .i64))])] : List (Nat × List (Option DT))).lookup i) nfz
noncomputable def c12 : Code := bodyOf Try.f12
def lv12 : Nat → Option Norm := norms []
def en12 : End := ⟨[], ⟨[44], [], [], []⟩⟩
def dec12 (l : List TV) (o : List (Nat × TO)) : Option (Bool) := match l, o with | [.dv (.bool) x0], [] => some (x0) | _, _ => none
def m12 (a16 : Option (Bool)) (a23 : (List Int) → (List Int) → Option (Bool)) (a39 : (Int × List (List Int) × Unit) → (List Int) → Option (List Int × Int × Int)) (a41 : (Int × List (List Int) × Unit) → Option (Int × List (List Int) × Unit)) (a42 : (Int × List (List Int) × Unit) → (List Int) → Int → Option (List Int)) (a50c : (List Int) → (List Int) → (List (Int × List (List Int) × Unit)) → Int → (List Int) → Option (List (Int × List (List Int) × Unit) × Int × List Int)) (N : Nat) (e0 : Int × List (List Int) × Unit) (by1 : List Int) : Option (Bool) :=
      (a41 e0).bind fun r1 =>
      (a42 r1 by1 (5 : Int)).bind fun r2 =>
      (a50c ([] : List Int) r2 ([r1] : List (Int × List (List Int) × Unit)) (0 : Int) ([] : List Int)).bind fun r3 =>
      (a39 (r3.1.getD 0 ((0 : Int), (([] : List (List Int)), ()))) r2).bind fun r4 =>
      cond (r4.2.2 == (0 : Int)) (cond (r4.2.1 == r3.2.1) ((a23 r4.1 r3.2.2).bind fun r5 =>
      cond (r5) ((a16).bind fun r6 =>
      some r6)
      (some false))
      (some false))
      (some false)
theorem k12 (a16 : Option (Bool)) (a23 : (List Int) → (List Int) → Option (Bool)) (a39 : (Int × List (List Int) × Unit) → (List Int) → Option (List Int × Int × Int)) (a41 : (Int × List (List Int) × Unit) → Option (Int × List (List Int) × Unit)) (a42 : (Int × List (List Int) × Unit) → (List Int) → Int → Option (List Int)) (a50c : (List Int) → (List Int) → (List (Int × List (List Int) × Unit)) → Int → (List Int) → Option (List (Int × List (List Int) × Unit) × Int × List Int)) (N : Nat) (e0 : Int × List (List Int) × Unit) (by1 : List Int) : callF (E12 a16 a23 a39 a41 a42 a50c) lv12 N en12 c12 (resOf Try.f12) 42 [.dv (.pair (.int .u8) (.pair (.sl (.arr 5 (.int .u8))) (.unit))) e0, .dv (.sl (.int .u8)) by1] [] dec12 = m12 a16 a23 a39 a41 a42 a50c N e0 by1 := by kernel_rfl
theorem ok12 (a16 : Option (Bool)) (a23 : (List Int) → (List Int) → Option (Bool)) (a39 : (Int × List (List Int) × Unit) → (List Int) → Option (List Int × Int × Int)) (a41 : (Int × List (List Int) × Unit) → Option (Int × List (List Int) × Unit)) (a42 : (Int × List (List Int) × Unit) → (List Int) → Int → Option (List Int)) (a50c : (List Int) → (List Int) → (List (Int × List (List Int) × Unit)) → Int → (List Int) → Option (List (Int × List (List Int) × Unit) × Int × List Int)) (h16 : FnOk Try.prog 16 (F16 a16)) (h23 : FnOk Try.prog 23 (F23 a23)) (h39 : FnOk Try.prog 39 (F39 a39)) (h41 : FnOk Try.prog 41 (F41 a41)) (h42 : FnOk Try.prog 42 (F42 a42)) (h50c : FnOk Try.prog 50 (F50c a50c)) (a : (Int × List (List Int) × Unit) → (List Int) → Option (Bool)) (h : ∀ e0 by1 r, a e0 by1 = some r → (∃ N, m12 a16 a23 a39 a41 a42 a50c N e0 by1 = some r)) : FnOk Try.prog 12 (F12 a) := by
  intro args Of x hx
  simp only [F12] at hx
  split at hx
  · rename_i e0 by1
    obtain ⟨N, hN⟩ := h _ _ _ hx
    refine lifted (L := [(16, F16 a16), (23, F23 a23), (39, F39 a39), (41, F41 a41), (42, F42 a42), (50, F50c a50c)]) (rc := (fun i => ([(7, [some (.sl (.int .i64))])] : List (Nat × List (Option DT))).lookup i)) (fz := nfz) (fn := Try.f12) (by kernel_rfl) (by kernel_rfl) (by kernel_rfl) (by kernel_rfl) rfl ?_ ((k12 a16 a23 a39 a41 a42 a50c N _ _).trans hN) ?_
    · intro p hp; simp only [List.mem_cons, List.not_mem_nil, or_false] at hp; rcases hp with rfl | rfl | rfl | rfl | rfl | rfl
      · exact h16
      · exact h23
      · exact h39
      · exact h41
      · exact h42
      · exact h50c
    · intro l o hd
      simp only [dec12] at hd
      split at hd
      · obtain rfl := Option.some.inj hd; exact ⟨rfl, rfl⟩
      · cases hd
  · cases hx
end Go.Proofs.Ytaioadjcdjmkdaa
