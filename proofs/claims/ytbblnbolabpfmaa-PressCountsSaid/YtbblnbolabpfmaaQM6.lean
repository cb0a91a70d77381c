import Derived.Test.YtbblnbolabpfmaaQFI
namespace Go.Proofs.Ytbblnbolabpfmaa
open Go.RowKit
set_option linter.unusedVariables false
def E6 (a14 : Option (Bool)) (a15 : (List (Int × Int × Unit)) → Option (List (Int × Int × Unit))) (a34 : (List (Int × Int × Unit)) → Int → Option (Int × Int × Int)) (a35 : (List (Int × Int × Unit)) → Int → Option (Int × Int × Int)) (a36 : (List (Int × Int × Unit)) → Int → Option (Int × Int)) (a37 : (List (Int × Int × Unit)) → Int → Option (Int × Int)) (a38 : (List (Int × Int × Unit)) → Int → Option (Int × Int)) (a39 : (List (Int × Int × Unit)) → Int → Option (Int × Int)) : Env := mkE TI TY [(14, F14 a14), (15, F15 a15), (34, F34 a34), (35, F35 a35), (36, F36 a36), (37, F37 a37), (38, F38 a38), (39, F39 a39)] nrc nfz
noncomputable def c6 : Code := bodyOf Try.f6
def lv6 : Nat → Option Norm := norms []
def en6 : End := ⟨[], ⟨[104], [], [], []⟩⟩
def dec6 (l : List TV) (o : List (Nat × TO)) : Option (Bool) := match l, o with | [.dv (.bool) x0], [] => some (x0) | _, _ => none
def m6 (a14 : Option (Bool)) (a15 : (List (Int × Int × Unit)) → Option (List (Int × Int × Unit))) (a34 : (List (Int × Int × Unit)) → Int → Option (Int × Int × Int)) (a35 : (List (Int × Int × Unit)) → Int → Option (Int × Int × Int)) (a36 : (List (Int × Int × Unit)) → Int → Option (Int × Int)) (a37 : (List (Int × Int × Unit)) → Int → Option (Int × Int)) (a38 : (List (Int × Int × Unit)) → Int → Option (Int × Int)) (a39 : (List (Int × Int × Unit)) → Int → Option (Int × Int)) (N : Nat) (l0 : List (Int × Int × Unit)) (fine1 : Int) (days2 : Int) (order3 : Int) : Option (Bool) :=
      cond (decide ((l0.length : Int) > (40 : Int))) ((a14).bind fun r1 =>
      some r1)
      ((a15 l0).bind fun r2 =>
      (a34 l0 fine1).bind fun r3 =>
      (a35 r2 fine1).bind fun r4 =>
      (a36 l0 days2).bind fun r5 =>
      (a37 r2 days2).bind fun r6 =>
      (a38 l0 order3).bind fun r7 =>
      (a39 r2 order3).bind fun r8 =>
      cond (r3.1 == r4.1) (cond (r3.2.1 == r4.2.1) (cond (r3.2.2 == r4.2.2) (cond (r5.1 == r6.1) (cond (r5.2 == r6.2) (cond (r7.1 == r8.1) (cond (r7.2 == r8.2) ((a14).bind fun r9 =>
      some r9)
      (some false))
      (some false))
      (some false))
      (some false))
      (some false))
      (some false))
      (some false))
theorem k6 (a14 : Option (Bool)) (a15 : (List (Int × Int × Unit)) → Option (List (Int × Int × Unit))) (a34 : (List (Int × Int × Unit)) → Int → Option (Int × Int × Int)) (a35 : (List (Int × Int × Unit)) → Int → Option (Int × Int × Int)) (a36 : (List (Int × Int × Unit)) → Int → Option (Int × Int)) (a37 : (List (Int × Int × Unit)) → Int → Option (Int × Int)) (a38 : (List (Int × Int × Unit)) → Int → Option (Int × Int)) (a39 : (List (Int × Int × Unit)) → Int → Option (Int × Int)) (N : Nat) (l0 : List (Int × Int × Unit)) (fine1 : Int) (days2 : Int) (order3 : Int) : callF (E6 a14 a15 a34 a35 a36 a37 a38 a39) lv6 N en6 c6 (resOf Try.f6) 100 [.dv (.sl (.pair (.int .i64) (.pair (.int .i64) (.unit)))) l0, .dv (.int .i64) fine1, .dv (.int .i64) days2, .dv (.int .i64) order3] [] dec6 = m6 a14 a15 a34 a35 a36 a37 a38 a39 N l0 fine1 days2 order3 := by kernel_rfl
theorem ok6 (a14 : Option (Bool)) (a15 : (List (Int × Int × Unit)) → Option (List (Int × Int × Unit))) (a34 : (List (Int × Int × Unit)) → Int → Option (Int × Int × Int)) (a35 : (List (Int × Int × Unit)) → Int → Option (Int × Int × Int)) (a36 : (List (Int × Int × Unit)) → Int → Option (Int × Int)) (a37 : (List (Int × Int × Unit)) → Int → Option (Int × Int)) (a38 : (List (Int × Int × Unit)) → Int → Option (Int × Int)) (a39 : (List (Int × Int × Unit)) → Int → Option (Int × Int)) (h14 : FnOk Try.prog 14 (F14 a14)) (h15 : FnOk Try.prog 15 (F15 a15)) (h34 : FnOk Try.prog 34 (F34 a34)) (h35 : FnOk Try.prog 35 (F35 a35)) (h36 : FnOk Try.prog 36 (F36 a36)) (h37 : FnOk Try.prog 37 (F37 a37)) (h38 : FnOk Try.prog 38 (F38 a38)) (h39 : FnOk Try.prog 39 (F39 a39)) (a : (List (Int × Int × Unit)) → Int → Int → Int → Option (Bool)) (h : ∀ l0 fine1 days2 order3 r, a l0 fine1 days2 order3 = some r → (∃ N, m6 a14 a15 a34 a35 a36 a37 a38 a39 N l0 fine1 days2 order3 = some r)) : FnOk Try.prog 6 (F6 a) := by
  intro args Of x hx
  simp only [F6] at hx
  split at hx
  · rename_i l0 fine1 days2 order3
    obtain ⟨N, hN⟩ := h _ _ _ _ _ hx
    refine lifted (L := [(14, F14 a14), (15, F15 a15), (34, F34 a34), (35, F35 a35), (36, F36 a36), (37, F37 a37), (38, F38 a38), (39, F39 a39)]) (rc := nrc) (fz := nfz) (fn := Try.f6) (by kernel_rfl) (by kernel_rfl) (by kernel_rfl) (by kernel_rfl) rfl ?_ ((k6 a14 a15 a34 a35 a36 a37 a38 a39 N _ _ _ _).trans hN) ?_
    · intro p hp; simp only [List.mem_cons, List.not_mem_nil, or_false] at hp; rcases hp with rfl | rfl | rfl | rfl | rfl | rfl | rfl | rfl
      · exact h14
      · exact h15
      · exact h34
      · exact h35
      · exact h36
      · exact h37
      · exact h38
      · exact h39
    · intro l o hd
      simp only [dec6] at hd
      split at hd
      · obtain rfl := Option.some.inj hd; exact ⟨rfl, rfl⟩
      · cases hd
  · cases hx
end Go.Proofs.Ytbblnbolabpfmaa
