import Derived.Test.YtaioadjcdjmkdaaQFI
namespace Go.Proofs.Ytaioadjcdjmkdaa
open Go.RowKit
set_option linter.unusedVariables false
def E48c (a43 : (Int × List (List Int) × Unit) → (List Int) → Option (List Int)) : Env := mkE TI TY [(43, F43 a43)] nrc nfz
noncomputable def c48c : Code := bodyOf Try.f48
def lv48c : Nat → Option Norm := norms []
def en48c : End := ⟨[], ⟨[12], [9000, 9001, 9002], [], []⟩⟩
def dec48c (l : List TV) (o : List (Nat × TO)) : Option (Bool × List Int × List (Int × List (List Int) × Unit) × Int) := match l, o with | [.dv (.bool) x0], [(9000, .row (.int .i64) x1), (9001, .row (.pair (.int .i64) (.pair (.sl (.sl (.int .i64))) (.unit))) x2), (9002, .rcd [.dv (.int .i64) x3])] => some (x0, x1, x2, x3) | _, _ => none
def m48c (a43 : (Int × List (List Int) × Unit) → (List Int) → Option (List Int)) (N : Nat) (p0 : List Int) (p1 : List (Int × List (List Int) × Unit)) (p2 : Int) : Option (Bool × List Int × List (Int × List (List Int) × Unit) × Int) :=
      (a43 (p1.getD 0 ((0 : Int), (([] : List (List Int)), ()))) p0).bind fun r1 =>
      chk (decide (0 ≤ p2 ∧ p2 < (r1.length : Int))) (some (decide ((r1.getD p2.toNat (0 : Int)) ≥ (0 : Int)), p0, p1, p2))
theorem k48c (a43 : (Int × List (List Int) × Unit) → (List Int) → Option (List Int)) (N : Nat) (p0 : List Int) (p1 : List (Int × List (List Int) × Unit)) (p2 : Int) : callF (E48c a43) lv48c N en48c c48c (resOf Try.f48) 9 [.row 9000, .ptr 9001 0 [], .ptr 9002 0 [0]] [(9000, .row (.int .i64) p0), (9001, .row (.pair (.int .i64) (.pair (.sl (.sl (.int .i64))) (.unit))) p1), (9002, .rcd [.dv (.int .i64) p2])] dec48c = m48c a43 N p0 p1 p2 := by kernel_rfl
theorem ok48c (a43 : (Int × List (List Int) × Unit) → (List Int) → Option (List Int)) (h43 : FnOk Try.prog 43 (F43 a43)) (a : (List Int) → (List (Int × List (List Int) × Unit)) → Int → Option (Bool × List Int × List (Int × List (List Int) × Unit) × Int)) (h : ∀ p0 p1 p2 r, a p0 p1 p2 = some r → (∃ N, m48c a43 N p0 p1 p2 = some r)) : FnOk Try.prog 48 (F48c a) := by
  intro args Of x hx
  simp only [F48c] at hx
  split at hx
  · rename_i p0 p1 p2
    obtain ⟨N, hN⟩ := h _ _ _ _ hx
    refine lifted (L := [(43, F43 a43)]) (rc := nrc) (fz := nfz) (fn := Try.f48) (by kernel_rfl) (by kernel_rfl) (by kernel_rfl) (by kernel_rfl) rfl ?_ ((k48c a43 N _ _ _).trans hN) ?_
    · intro p hp; simp only [List.mem_cons, List.not_mem_nil, or_false] at hp; rcases hp with rfl; exact h43
    · intro l o hd
      simp only [dec48c] at hd
      split at hd
      · obtain rfl := Option.some.inj hd; exact ⟨rfl, rfl⟩
      · cases hd
  · cases hx
end Go.Proofs.Ytaioadjcdjmkdaa
