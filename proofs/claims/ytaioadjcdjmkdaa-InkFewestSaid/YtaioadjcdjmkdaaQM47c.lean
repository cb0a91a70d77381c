import Derived.Test.YtaioadjcdjmkdaaQFI
namespace Go.Proofs.Ytaioadjcdjmkdaa
open Go.RowKit
set_option linter.unusedVariables false
def E47c (a45c : (List Int) → (List (Int × List (List Int) × Unit)) → (List Int) → Option (Bool × List Int × List (Int × List (List Int) × Unit) × List Int)) : Env := mkE TI TY [(45, F45c a45c)] nrc nfz
noncomputable def c47c : Code := bodyOf Try.f47
def lv47c : Nat → Option Norm := norms []
def en47c : End := ⟨[], ⟨[11], [9000, 9001, 9002, 9003, 9004, 9005], [], []⟩⟩
def dec47c (l : List TV) (o : List (Nat × TO)) : Option (Bool × List Int × List Int × List (Int × List (List Int) × Unit) × List Int) := match l, o, capsOf l o with | [.dv (.bool) x0], [(9000, .row (.int .i64) x1), (9001, .rcd [.fn 45 0 2 _]), (9002, .rcd [.dv (.sl (.int .i64)) x2]), (9003, .row (.pair (.int .i64) (.pair (.sl (.sl (.int .i64))) (.unit))) x3), (9004, .rcd [.row 9005]), (9005, .row (.int .i64) x4)], [[.ptr 9003 0 [], .ptr 9004 0 [0]]] => some (x0, x1, x2, x3, x4) | _, _, _ => none
def m47c (a45c : (List Int) → (List (Int × List (List Int) × Unit)) → (List Int) → Option (Bool × List Int × List (Int × List (List Int) × Unit) × List Int)) (N : Nat) (p0 : List Int) (p1 : List Int) (p2 : List (Int × List (List Int) × Unit)) (p3 : List Int) : Option (Bool × List Int × List Int × List (Int × List (List Int) × Unit) × List Int) :=
      (a45c p0 p2 p3).bind fun r1 =>
      cond (r1.1) (chk (small (0 + r1.2.1.length) 8) (some (true, r1.2.1, ([] : List Int) ++ r1.2.1, r1.2.2.1, r1.2.2.2)))
      (some (false, r1.2.1, p1, r1.2.2.1, r1.2.2.2))
theorem k47c (a45c : (List Int) → (List (Int × List (List Int) × Unit)) → (List Int) → Option (Bool × List Int × List (Int × List (List Int) × Unit) × List Int)) (N : Nat) (p0 : List Int) (p1 : List Int) (p2 : List (Int × List (List Int) × Unit)) (p3 : List Int) : callF (E47c a45c) lv47c N en47c c47c (resOf Try.f47) 8 [.row 9000, .ptr 9001 0 [0], .ptr 9002 0 [0]] [(9000, .row (.int .i64) p0), (9001, .rcd [.fn 45 0 2 fun i => ([.ptr 9003 0 [], .ptr 9004 0 [0]] : List TV).getD i .any]), (9002, .rcd [.dv (.sl (.int .i64)) p1]), (9003, .row (.pair (.int .i64) (.pair (.sl (.sl (.int .i64))) (.unit))) p2), (9004, .rcd [.row 9005]), (9005, .row (.int .i64) p3)] dec47c = m47c a45c N p0 p1 p2 p3 := by kernel_rfl
theorem ok47c (a45c : (List Int) → (List (Int × List (List Int) × Unit)) → (List Int) → Option (Bool × List Int × List (Int × List (List Int) × Unit) × List Int)) (h45c : FnOk Try.prog 45 (F45c a45c)) (a : (List Int) → (List Int) → (List (Int × List (List Int) × Unit)) → (List Int) → Option (Bool × List Int × List Int × List (Int × List (List Int) × Unit) × List Int)) (h : ∀ p0 p1 p2 p3 r, a p0 p1 p2 p3 = some r → (∃ N, m47c a45c N p0 p1 p2 p3 = some r)) : FnOk Try.prog 47 (F47c a) := by
  intro args Of x hx
  simp only [F47c] at hx
  split at hx
  · rename_i p0 f_0 p1 p2 p3 heqc
    have hc0 := congrArg (fun c : List (List TV) => c.getD 0 []) heqc
    obtain ⟨N, hN⟩ := h _ _ _ _ _ hx
    refine HSpec.etaL (args := [.row 9000, .ptr 9001 0 [0], .ptr 9002 0 [0]]) (O := [(9000, .row (.int .i64) p0), (9001, .rcd [.fn 45 0 2 fun i => ([.ptr 9003 0 [], .ptr 9004 0 [0]] : List TV).getD i .any]), (9002, .rcd [.dv (.sl (.int .i64)) p1]), (9003, .row (.pair (.int .i64) (.pair (.sl (.sl (.int .i64))) (.unit))) p2), (9004, .rcd [.row 9005]), (9005, .row (.int .i64) p3)]) ⟨TV.sim_refl _, TV.sim_refl _, TV.sim_refl _, trivial⟩ ⟨rfl, TO.sim_refl _, rfl, TO.sim_rcd ⟨TV.sim_fn hc0, trivial⟩, rfl, TO.sim_refl _, rfl, TO.sim_refl _, rfl, TO.sim_refl _, rfl, TO.sim_refl _, trivial⟩ (liftedS (L := [(45, F45c a45c)]) (rc := nrc) (fz := nfz) (fn := Try.f47) (by kernel_rfl) (by kernel_rfl) (by kernel_rfl) (by kernel_rfl) rfl ?_ ((k47c a45c N _ _ _ _).trans hN) ?_)
    · intro p hp; simp only [List.mem_cons, List.not_mem_nil, or_false] at hp; rcases hp with rfl; exact h45c
    · intro l o hd
      simp only [dec47c] at hd
      split at hd
      · rename_i heqd
        have hd0 := congrArg (fun c : List (List TV) => c.getD 0 []) heqd
        obtain rfl := Option.some.inj hd; exact ⟨TV.sim_refl _, ⟨rfl, TO.sim_refl _, rfl, TO.sim_rcd ⟨TV.sim_symm (TV.sim_fn hd0), trivial⟩, rfl, TO.sim_refl _, rfl, TO.sim_refl _, rfl, TO.sim_refl _, rfl, TO.sim_refl _, trivial⟩⟩
      · cases hd
  · cases hx
end Go.Proofs.Ytaioadjcdjmkdaa
