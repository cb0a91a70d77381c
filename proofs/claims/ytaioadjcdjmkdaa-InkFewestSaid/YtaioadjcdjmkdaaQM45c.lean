import Derived.Test.YtaioadjcdjmkdaaQFI
namespace Go.Proofs.Ytaioadjcdjmkdaa
open Go.RowKit
set_option linter.unusedVariables false
def E45c (a43 : (Int × List (List Int) × Unit) → (List Int) → Option (List Int)) : Env := mkE TI TY [(43, F43 a43)] nrc nfz
noncomputable def c45c : Code := bodyOf Try.f45
def nm45c_0 : Norm := ⟨[5, 11, 12, 13], [1101500, 9003, 9000, 9001, 9002], [], []⟩
def lv45c : Nat → Option Norm := norms [(3, nm45c_0)]
def en45c : End := ⟨[], ⟨[23], [9000, 9001, 9002, 9003], [], []⟩⟩
def dec45c (l : List TV) (o : List (Nat × TO)) : Option (Bool × List Int × List (Int × List (List Int) × Unit) × List Int) := match l, o with | [.dv (.bool) x0], [(9000, .row (.int .i64) x1), (9001, .row (.pair (.int .i64) (.pair (.sl (.sl (.int .i64))) (.unit))) x2), (9002, .rcd [.row 9003]), (9003, .row (.int .i64) x3)] => some (x0, x1, x2, x3) | _, _ => none
noncomputable def K45c_0 (a43 : (Int × List (List Int) × Unit) → (List Int) → Option (List Int)) (N : Nat) : Kont (Bool × List Int × List (Int × List (List Int) × Unit) × List Int) := kont (E45c a43) lv45c N c45c [1, 1, 0, 1, 0] (fin TI en45c (resOf Try.f45) dec45c)
noncomputable def R45c_0 (a43 : (Int × List (List Int) × Unit) → (List Int) → Option (List Int)) (N : Nat) (m : Nat) : TS → Option (Bool × List Int × List (Int × List (List Int) × Unit) × List Int) := loopK (den (E45c a43) lv45c N (sub c45c [1, 1, 0, 1, 0, 0])) (TS.norm nm45c_0) (K45c_0 a43 N) m
def Sl45ca (p0 : List Int) (p1 : List (Int × List (List Int) × Unit)) (p2 : List Int) (r1 : List Int) (t13_a : Int) : TS := ⟨slots 23 [(5, .row 1101500), (11, .row 9003), (12, .dv (.int .i64) (p2.length : Int)), (13, .dv (.int .i64) t13_a)], [(1101500, .row (.int .i64) r1), (9003, .row (.int .i64) p2), (9000, .row (.int .i64) p0), (9001, .row (.pair (.int .i64) (.pair (.sl (.sl (.int .i64))) (.unit))) p1), (9002, .rcd [.row 9003])]⟩
def l45ca (a43 : (Int × List (List Int) × Unit) → (List Int) → Option (List Int)) (N : Nat) (p0 : List Int) (p1 : List (Int × List (List Int) × Unit)) (p2 : List Int) (r1 : List Int) : Nat → Int → Option (Bool × List Int × List (Int × List (List Int) × Unit) × List Int)
  | 0, _ => none
  | n + 1, t13_a => cond (decide (t13_a < (p2.length : Int))) (chk (decide (0 ≤ t13_a ∧ t13_a < (p2.length : Int))) (chk (decide (0 ≤ p2.getD t13_a.toNat (0 : Int) ∧ p2.getD t13_a.toNat (0 : Int) < (r1.length : Int))) (cond (decide ((r1.getD ((p2.getD t13_a.toNat (0 : Int)).toNat) (0 : Int)) < (0 : Int))) (some (false, p0, p1, p2))
      ((l45ca a43 N p0 p1 p2 r1 n (w64 (t13_a + (1 : Int))))))))
      (some (true, p0, p1, p2))
theorem wl45ca (a43 : (Int × List (List Int) × Unit) → (List Int) → Option (List Int)) (N : Nat) (p0 : List Int) (p1 : List (Int × List (List Int) × Unit)) (p2 : List Int) (r1 : List Int) (m : Nat) (t13_a : Int) : R45c_0 a43 N (m + 1) (Sl45ca p0 p1 p2 r1 t13_a) = cond (decide (t13_a < (p2.length : Int))) (chk (decide (0 ≤ t13_a ∧ t13_a < (p2.length : Int))) (chk (decide (0 ≤ p2.getD t13_a.toNat (0 : Int) ∧ p2.getD t13_a.toNat (0 : Int) < (r1.length : Int))) (cond (decide ((r1.getD ((p2.getD t13_a.toNat (0 : Int)).toNat) (0 : Int)) < (0 : Int))) (some (false, p0, p1, p2))
      ((R45c_0 a43 N m (Sl45ca p0 p1 p2 r1 (w64 (t13_a + (1 : Int)))))))))
      (some (true, p0, p1, p2)) := by kernel_rfl
theorem ql45ca (a43 : (Int × List (List Int) × Unit) → (List Int) → Option (List Int)) (N : Nat) (p0 : List Int) (p1 : List (Int × List (List Int) × Unit)) (p2 : List Int) (r1 : List Int) : ∀ (m : Nat) (t13_a : Int), R45c_0 a43 N m (Sl45ca p0 p1 p2 r1 t13_a) = l45ca a43 N p0 p1 p2 r1 m t13_a
        | 0, _ => rfl
        | m + 1, t13_a => by rw [wl45ca]; simp only [l45ca, ql45ca a43 N p0 p1 p2 r1 m]
def m45c (a43 : (Int × List (List Int) × Unit) → (List Int) → Option (List Int)) (N : Nat) (p0 : List Int) (p1 : List (Int × List (List Int) × Unit)) (p2 : List Int) : Option (Bool × List Int × List (Int × List (List Int) × Unit) × List Int) :=
      (a43 (p1.getD 0 ((0 : Int), (([] : List (List Int)), ()))) p0).bind fun r1 =>
      (l45ca a43 N p0 p1 p2 r1 N (0 : Int))
theorem wm45c (a43 : (Int × List (List Int) × Unit) → (List Int) → Option (List Int)) (N : Nat) (p0 : List Int) (p1 : List (Int × List (List Int) × Unit)) (p2 : List Int) : callF (E45c a43) lv45c N en45c c45c (resOf Try.f45) 20 [.row 9000, .ptr 9001 0 [], .ptr 9002 0 [0]] [(9000, .row (.int .i64) p0), (9001, .row (.pair (.int .i64) (.pair (.sl (.sl (.int .i64))) (.unit))) p1), (9002, .rcd [.row 9003]), (9003, .row (.int .i64) p2)] dec45c = (a43 (p1.getD 0 ((0 : Int), (([] : List (List Int)), ()))) p0).bind fun r1 =>
      (R45c_0 a43 N N (Sl45ca p0 p1 p2 r1 (0 : Int))) := by kernel_rfl
theorem k45c (a43 : (Int × List (List Int) × Unit) → (List Int) → Option (List Int)) (N : Nat) (p0 : List Int) (p1 : List (Int × List (List Int) × Unit)) (p2 : List Int) : callF (E45c a43) lv45c N en45c c45c (resOf Try.f45) 20 [.row 9000, .ptr 9001 0 [], .ptr 9002 0 [0]] [(9000, .row (.int .i64) p0), (9001, .row (.pair (.int .i64) (.pair (.sl (.sl (.int .i64))) (.unit))) p1), (9002, .rcd [.row 9003]), (9003, .row (.int .i64) p2)] dec45c = m45c a43 N p0 p1 p2 := by rw [wm45c]; simp only [m45c, ql45ca]
theorem ok45c (a43 : (Int × List (List Int) × Unit) → (List Int) → Option (List Int)) (h43 : FnOk Try.prog 43 (F43 a43)) (a : (List Int) → (List (Int × List (List Int) × Unit)) → (List Int) → Option (Bool × List Int × List (Int × List (List Int) × Unit) × List Int)) (h : ∀ p0 p1 p2 r, a p0 p1 p2 = some r → (∃ N, m45c a43 N p0 p1 p2 = some r)) : FnOk Try.prog 45 (F45c a) := by
  intro args Of x hx
  simp only [F45c] at hx
  split at hx
  · rename_i p0 p1 p2
    obtain ⟨N, hN⟩ := h _ _ _ _ hx
    refine lifted (L := [(43, F43 a43)]) (rc := nrc) (fz := nfz) (fn := Try.f45) (by kernel_rfl) (by kernel_rfl) (by kernel_rfl) (by kernel_rfl) rfl ?_ ((k45c a43 N _ _ _).trans hN) ?_
    · intro p hp; simp only [List.mem_cons, List.not_mem_nil, or_false] at hp; rcases hp with rfl; exact h43
    · intro l o hd
      simp only [dec45c] at hd
      split at hd
      · obtain rfl := Option.some.inj hd; exact ⟨rfl, rfl⟩
      · cases hd
  · cases hx
end Go.Proofs.Ytaioadjcdjmkdaa
