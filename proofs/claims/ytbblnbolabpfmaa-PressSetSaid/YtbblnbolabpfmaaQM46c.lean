import Derived.Test.YtbblnbolabpfmaaQFI
namespace Go.Proofs.Ytbblnbolabpfmaa
open Go.RowKit
set_option linter.unusedVariables false
def E46c (a16 : (List (Int × Int × Unit)) → (List Int) → Option (Int × Int)) (a43 : Int → Option (List Int)) : Env := mkE TI TY [(16, F16 a16), (43, F43 a43)] nrc nfz
noncomputable def c46c : Code := bodyOf Try.f46
def lv46c : Nat → Option Norm := norms []
def en46c : End := ⟨[], ⟨[15], [], [], []⟩⟩
def dec46c (l : List TV) (o : List (Nat × TO)) : Option (Bool) := match l, o with | [.dv (.bool) x0], [] => some (x0) | _, _ => none
def m46c (a16 : (List (Int × Int × Unit)) → (List Int) → Option (Int × Int)) (a43 : Int → Option (List Int)) (N : Nat) (set0 : Int) (p1 : List (Int × Int × Unit)) : Option (Bool) :=
      (a43 set0).bind fun r1 =>
      (a16 p1 r1).bind fun r2 =>
      some (r2.2 == (14 : Int))
theorem k46c (a16 : (List (Int × Int × Unit)) → (List Int) → Option (Int × Int)) (a43 : Int → Option (List Int)) (N : Nat) (set0 : Int) (p1 : List (Int × Int × Unit)) : callF (E46c a16 a43) lv46c N en46c c46c (resOf Try.f46) 13 [.dv (.int .i64) set0, .el (.sl (.pair (.int .i64) (.pair (.int .i64) (.unit)))) p1 []] [] dec46c = m46c a16 a43 N set0 p1 := by kernel_rfl
theorem ok46c (a16 : (List (Int × Int × Unit)) → (List Int) → Option (Int × Int)) (a43 : Int → Option (List Int)) (h16 : FnOk Try.prog 16 (F16 a16)) (h43 : FnOk Try.prog 43 (F43 a43)) (a : Int → (List (Int × Int × Unit)) → Option (Bool)) (h : ∀ set0 p1 r, a set0 p1 = some r → (∃ N, m46c a16 a43 N set0 p1 = some r)) : FnOk Try.prog 46 (F46c a) := by
  intro args Of x hx
  simp only [F46c] at hx
  split at hx
  · rename_i set0 p1
    obtain ⟨N, hN⟩ := h _ _ _ hx
    refine lifted (L := [(16, F16 a16), (43, F43 a43)]) (rc := nrc) (fz := nfz) (fn := Try.f46) (by kernel_rfl) (by kernel_rfl) (by kernel_rfl) (by kernel_rfl) rfl ?_ ((k46c a16 a43 N _ _).trans hN) ?_
    · intro p hp; simp only [List.mem_cons, List.not_mem_nil, or_false] at hp; rcases hp with rfl | rfl
      · exact h16
      · exact h43
    · intro l o hd
      simp only [dec46c] at hd
      split at hd
      · obtain rfl := Option.some.inj hd; exact ⟨rfl, rfl⟩
      · cases hd
  · cases hx
end Go.Proofs.Ytbblnbolabpfmaa
