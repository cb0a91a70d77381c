/-
  The functions that the law reaches, told as plain functions.
-/
import Derived.Test.YtbblnbolabpfmaaWM0
namespace Go.Proofs.Ytbblnbolabpfmaa
open Go.RowKit
set_option linter.unusedVariables false
def E40 (a67 : (List Int) → Option (List (Int × Int × Unit))) : Env := mkE TI TY [(67, F67 a67)] nrc nfz
noncomputable def c40 : Code := bodyOf Try.f40
def nm40_0 : Norm := ⟨[0, 4], [], [(.slot 3, 1003, .pair (.int .i64) (.pair (.int .i64) (.unit)))], []⟩
def lv40 : Nat → Option Norm := norms [(3, nm40_0)]
def en40 : End := ⟨[(40, .sl (.pair (.int .i64) (.pair (.int .i64) (.unit))))], ⟨[40], [], [], []⟩⟩
def dec40 (l : List TV) (o : List (Nat × TO)) : Option (List (Int × Int × Unit)) := match l, o with | [.dv (.sl (.pair (.int .i64) (.pair (.int .i64) (.unit)))) x0], [] => some (x0) | _, _ => none
noncomputable def K40_0 (a67 : (List Int) → Option (List (Int × Int × Unit))) (N : Nat) : Kont (List (Int × Int × Unit)) := kont (E40 a67) lv40 N c40 [1, 1, 0, 1, 0] (fin TI en40 (resOf Try.f40) dec40)
noncomputable def R40_0 (a67 : (List Int) → Option (List (Int × Int × Unit))) (N : Nat) (m : Nat) : TS → Option (List (Int × Int × Unit)) := loopK (den (E40 a67) lv40 N (sub c40 [1, 1, 0, 1, 0, 0])) (TS.norm nm40_0) (K40_0 a67 N) m
def Sl40a (d0 : List (List Int)) (i4_a : Int) (l3_a : List (Int × Int × Unit)) : TS := ⟨slots 40 [(0, .dv (.sl (.arr 2 (.int .u8))) d0), (3, .row 1003), (4, .dv (.int .i64) i4_a)], [(1003, .row (.pair (.int .i64) (.pair (.int .i64) (.unit))) l3_a)]⟩
def l40a (a67 : (List Int) → Option (List (Int × Int × Unit))) (N : Nat) (d0 : List (List Int)) : Nat → Int → (List (Int × Int × Unit)) → Option (List (Int × Int × Unit))
  | 0, _, _ => none
  | n + 1, i4_a, l3_a => cond (decide (i4_a < (d0.length : Int))) (cond (decide (i4_a < (6 : Int))) (chk (decide (0 ≤ i4_a ∧ i4_a < (d0.length : Int))) (chk (decide (0 ≤ i4_a ∧ i4_a < (d0.length : Int))) (chk (small (l3_a.length + 1) 16) ((l40a a67 N d0 n (w64 (i4_a + (1 : Int))) (l3_a ++ ([(w64 ((1 : Int) + (Int.tmod (w64 ((d0.getD i4_a.toNat ([(0 : Int), (0 : Int)] : List Int)).getD 0 (0 : Int))) (5 : Int))), (Int.tmod (w64 ((d0.getD i4_a.toNat ([(0 : Int), (0 : Int)] : List Int)).getD 1 (0 : Int))) (10 : Int), ()))] : List (Int × Int × Unit))))))))
      (cond ((l3_a.length : Int) == (0 : Int)) ((a67 ([(2 : Int), (3 : Int)] : List Int)).bind fun r1 =>
      some r1)
      (some l3_a)))
      (cond ((l3_a.length : Int) == (0 : Int)) ((a67 ([(2 : Int), (3 : Int)] : List Int)).bind fun r2 =>
      some r2)
      (some l3_a))
theorem wl40a (a67 : (List Int) → Option (List (Int × Int × Unit))) (N : Nat) (d0 : List (List Int)) (m : Nat) (i4_a : Int) (l3_a : List (Int × Int × Unit)) : R40_0 a67 N (m + 1) (Sl40a d0 i4_a l3_a) = cond (decide (i4_a < (d0.length : Int))) (cond (decide (i4_a < (6 : Int))) (chk (decide (0 ≤ i4_a ∧ i4_a < (d0.length : Int))) (chk (decide (0 ≤ i4_a ∧ i4_a < (d0.length : Int))) (chk (small (l3_a.length + 1) 16) ((R40_0 a67 N m (Sl40a d0 (w64 (i4_a + (1 : Int))) (l3_a ++ ([(w64 ((1 : Int) + (Int.tmod (w64 ((d0.getD i4_a.toNat ([(0 : Int), (0 : Int)] : List Int)).getD 0 (0 : Int))) (5 : Int))), (Int.tmod (w64 ((d0.getD i4_a.toNat ([(0 : Int), (0 : Int)] : List Int)).getD 1 (0 : Int))) (10 : Int), ()))] : List (Int × Int × Unit)))))))))
      (cond ((l3_a.length : Int) == (0 : Int)) ((a67 ([(2 : Int), (3 : Int)] : List Int)).bind fun r1 =>
      some r1)
      (some l3_a)))
      (cond ((l3_a.length : Int) == (0 : Int)) ((a67 ([(2 : Int), (3 : Int)] : List Int)).bind fun r2 =>
      some r2)
      (some l3_a)) := by kernel_rfl
theorem ql40a (a67 : (List Int) → Option (List (Int × Int × Unit))) (N : Nat) (d0 : List (List Int)) : ∀ (m : Nat) (i4_a : Int) (l3_a : List (Int × Int × Unit)), R40_0 a67 N m (Sl40a d0 i4_a l3_a) = l40a a67 N d0 m i4_a l3_a
        | 0, _, _ => rfl
        | m + 1, i4_a, l3_a => by rw [wl40a]; simp only [l40a, ql40a a67 N d0 m]
def m40 (a67 : (List Int) → Option (List (Int × Int × Unit))) (N : Nat) (d0 : List (List Int)) : Option (List (Int × Int × Unit)) :=
      (l40a a67 N d0 N (0 : Int) ([] : List (Int × Int × Unit)))
theorem wm40 (a67 : (List Int) → Option (List (Int × Int × Unit))) (N : Nat) (d0 : List (List Int)) : callF (E40 a67) lv40 N en40 c40 (resOf Try.f40) 39 [.dv (.sl (.arr 2 (.int .u8))) d0] [] dec40 = (R40_0 a67 N N (Sl40a d0 (0 : Int) ([] : List (Int × Int × Unit)))) := by kernel_rfl
theorem k40 (a67 : (List Int) → Option (List (Int × Int × Unit))) (N : Nat) (d0 : List (List Int)) : callF (E40 a67) lv40 N en40 c40 (resOf Try.f40) 39 [.dv (.sl (.arr 2 (.int .u8))) d0] [] dec40 = m40 a67 N d0 := by rw [wm40]; simp only [m40, ql40a]
theorem ok40 (a67 : (List Int) → Option (List (Int × Int × Unit))) (h67 : FnOk Try.prog 67 (F67 a67)) (a : (List (List Int)) → Option (List (Int × Int × Unit))) (h : ∀ d0 r, a d0 = some r → (∃ N, m40 a67 N d0 = some r)) : FnOk Try.prog 40 (F40 a) := by
  intro args Of x hx
  simp only [F40] at hx
  split at hx
  · rename_i d0
    obtain ⟨N, hN⟩ := h _ _ hx
    refine lifted (L := [(67, F67 a67)]) (rc := nrc) (fz := nfz) (fn := Try.f40) (by kernel_rfl) (by kernel_rfl) (by kernel_rfl) (by kernel_rfl) rfl ?_ ((k40 a67 N _).trans hN) ?_
    · intro p hp; simp only [List.mem_cons, List.not_mem_nil, or_false] at hp; rcases hp with rfl; exact h67
    · intro l o hd
      simp only [dec40] at hd
      split at hd
      · obtain rfl := Option.some.inj hd; exact ⟨rfl, rfl⟩
      · cases hd
  · cases hx
def E69c (a69c : Int → (List (Int × Int × Unit)) → Int → Int → Option (Bool × List (Int × Int × Unit) × Int × Int)) : Env := mkE TI TY [(69, F69c a69c)] nrc nfz
noncomputable def c69c : Code := bodyOf Try.f69
def nm69c_0 : Norm := ⟨[0, 1, 3, 4, 7], [9000, 9002, 9003, 9001], [], []⟩
def lv69c : Nat → Option Norm := norms [(6, nm69c_0)]
def en69c : End := ⟨[], ⟨[47], [9000, 9001, 9002, 9003], [], []⟩⟩
def dec69c (l : List TV) (o : List (Nat × TO)) : Option (Bool × List (Int × Int × Unit) × Int × Int) := match l, o, capsOf l o with | [.dv (.bool) x0], [(9000, .rcd [.dv (.sl (.pair (.int .i64) (.pair (.int .i64) (.unit)))) x1]), (9001, .rcd [.dv (.int .i64) x2]), (9002, .rcd [.fn 69 0 4 _]), (9003, .rcd [.dv (.int .i64) x3])], [[.ptr 9000 0 [0], .ptr 9001 0 [0], .ptr 9002 0 [0], .ptr 9003 0 [0]]] => some (x0, x1, x2, x3) | _, _, _ => none
noncomputable def K69c_0 (a69c : Int → (List (Int × Int × Unit)) → Int → Int → Option (Bool × List (Int × Int × Unit) × Int × Int)) (N : Nat) : Kont (Bool × List (Int × Int × Unit) × Int × Int) := kont (E69c a69c) lv69c N c69c [1, 1, 1, 0, 1, 0] (fin TI en69c (resOf Try.f69) dec69c)
noncomputable def R69c_0 (a69c : Int → (List (Int × Int × Unit)) → Int → Int → Option (Bool × List (Int × Int × Unit) × Int × Int)) (N : Nat) (m : Nat) : TS → Option (Bool × List (Int × Int × Unit) × Int × Int) := loopK (den (E69c a69c) lv69c N (sub c69c [1, 1, 1, 0, 1, 0, 0])) (TS.norm nm69c_0) (K69c_0 a69c N) m
def Sl69ca (i0 : Int) (d7_a : Int) (o9000_af0 : List (Int × Int × Unit)) (o9003_af0 : Int) (o9001_af0 : Int) : TS := ⟨slots 47 [(0, .dv (.int .i64) i0), (1, .ptr 9000 0 [0]), (3, .ptr 9002 0 [0]), (4, .ptr 9003 0 [0]), (7, .dv (.int .i64) d7_a)], [(9000, .rcd [.dv (.sl (.pair (.int .i64) (.pair (.int .i64) (.unit)))) o9000_af0]), (9002, .rcd [.fn 69 0 4 fun i => ([.ptr 9000 0 [0], .ptr 9001 0 [0], .ptr 9002 0 [0], .ptr 9003 0 [0]] : List TV).getD i .any]), (9003, .rcd [.dv (.int .i64) o9003_af0]), (9001, .rcd [.dv (.int .i64) o9001_af0])]⟩
def l69ca (a69c : Int → (List (Int × Int × Unit)) → Int → Int → Option (Bool × List (Int × Int × Unit) × Int × Int)) (N : Nat) (i0 : Int) : Nat → Int → (List (Int × Int × Unit)) → Int → Int → Option (Bool × List (Int × Int × Unit) × Int × Int)
  | 0, _, _, _, _ => none
  | n + 1, d7_a, o9000_af0, o9003_af0, o9001_af0 => chk (decide (0 ≤ i0 ∧ i0 < (o9000_af0.length : Int))) (cond (decide (d7_a ≤ ((o9000_af0.getD i0.toNat ((0 : Int), ((0 : Int), ()))).1))) (chk (decide (0 ≤ d7_a)) (cond ((bAnd .i64 (Int.fdiv o9003_af0 (2 ^ min (Int.toNat d7_a) 64)) (1 : Int)) == (0 : Int)) (chk (decide (0 ≤ d7_a)) ((a69c (w64 (i0 + (1 : Int))) o9000_af0 o9001_af0 (bOr .i64 o9003_af0 (IntKind.wrap .i64 ((1 : Int) * 2 ^ min (Int.toNat d7_a) 64)))).bind fun r2 =>
      cond (r2.1) (some (true, r2.2.1, r2.2.2.1, r2.2.2.2))
      (chk (decide (0 ≤ d7_a)) ((l69ca a69c N i0 n (w64 (d7_a + (1 : Int))) r2.2.1 (bAndNot .i64 r2.2.2.2 (IntKind.wrap .i64 ((1 : Int) * 2 ^ min (Int.toNat d7_a) 64))) r2.2.2.1)))))
      ((l69ca a69c N i0 n (w64 (d7_a + (1 : Int))) o9000_af0 o9003_af0 o9001_af0))))
      (some (false, o9000_af0, o9001_af0, o9003_af0)))
theorem wl69ca (a69c : Int → (List (Int × Int × Unit)) → Int → Int → Option (Bool × List (Int × Int × Unit) × Int × Int)) (N : Nat) (i0 : Int) (m : Nat) (d7_a : Int) (o9000_af0 : List (Int × Int × Unit)) (o9003_af0 : Int) (o9001_af0 : Int) : R69c_0 a69c N (m + 1) (Sl69ca i0 d7_a o9000_af0 o9003_af0 o9001_af0) = chk (decide (0 ≤ i0 ∧ i0 < (o9000_af0.length : Int))) (cond (decide (d7_a ≤ ((o9000_af0.getD i0.toNat ((0 : Int), ((0 : Int), ()))).1))) (chk (decide (0 ≤ d7_a)) (cond ((bAnd .i64 (Int.fdiv o9003_af0 (2 ^ min (Int.toNat d7_a) 64)) (1 : Int)) == (0 : Int)) (chk (decide (0 ≤ d7_a)) ((a69c (w64 (i0 + (1 : Int))) o9000_af0 o9001_af0 (bOr .i64 o9003_af0 (IntKind.wrap .i64 ((1 : Int) * 2 ^ min (Int.toNat d7_a) 64)))).bind fun r2 =>
      cond (r2.1) (some (true, r2.2.1, r2.2.2.1, r2.2.2.2))
      (chk (decide (0 ≤ d7_a)) ((R69c_0 a69c N m (Sl69ca i0 (w64 (d7_a + (1 : Int))) r2.2.1 (bAndNot .i64 r2.2.2.2 (IntKind.wrap .i64 ((1 : Int) * 2 ^ min (Int.toNat d7_a) 64))) r2.2.2.1))))))
      ((R69c_0 a69c N m (Sl69ca i0 (w64 (d7_a + (1 : Int))) o9000_af0 o9003_af0 o9001_af0)))))
      (some (false, o9000_af0, o9001_af0, o9003_af0))) := by kernel_rfl
theorem ql69ca (a69c : Int → (List (Int × Int × Unit)) → Int → Int → Option (Bool × List (Int × Int × Unit) × Int × Int)) (N : Nat) (i0 : Int) : ∀ (m : Nat) (d7_a : Int) (o9000_af0 : List (Int × Int × Unit)) (o9003_af0 : Int) (o9001_af0 : Int), R69c_0 a69c N m (Sl69ca i0 d7_a o9000_af0 o9003_af0 o9001_af0) = l69ca a69c N i0 m d7_a o9000_af0 o9003_af0 o9001_af0
        | 0, _, _, _, _ => rfl
        | m + 1, d7_a, o9000_af0, o9003_af0, o9001_af0 => by rw [wl69ca]; simp only [l69ca, ql69ca a69c N i0 m]
def m69c (a69c : Int → (List (Int × Int × Unit)) → Int → Int → Option (Bool × List (Int × Int × Unit) × Int × Int)) (N : Nat) (i0 : Int) (p1 : List (Int × Int × Unit)) (p2 : Int) (p3 : Int) : Option (Bool × List (Int × Int × Unit) × Int × Int) :=
      cond (i0 == (p1.length : Int)) (some (true, p1, p2, p3))
      (chk (decide (0 ≤ i0)) (cond ((bAnd .i64 (Int.fdiv p2 (2 ^ min (Int.toNat i0) 64)) (1 : Int)) == (0 : Int)) ((a69c (w64 (i0 + (1 : Int))) p1 p2 p3).bind fun r1 =>
      some (r1.1, r1.2.1, r1.2.2.1, r1.2.2.2))
      ((l69ca a69c N i0 N (1 : Int) p1 p3 p2))))
theorem wm69c (a69c : Int → (List (Int × Int × Unit)) → Int → Int → Option (Bool × List (Int × Int × Unit) × Int × Int)) (N : Nat) (i0 : Int) (p1 : List (Int × Int × Unit)) (p2 : Int) (p3 : Int) : callF (E69c a69c) lv69c N en69c c69c (resOf Try.f69) 42 [.dv (.int .i64) i0, .ptr 9000 0 [0], .ptr 9001 0 [0], .ptr 9002 0 [0], .ptr 9003 0 [0]] [(9000, .rcd [.dv (.sl (.pair (.int .i64) (.pair (.int .i64) (.unit)))) p1]), (9001, .rcd [.dv (.int .i64) p2]), (9002, .rcd [.fn 69 0 4 fun i => ([.ptr 9000 0 [0], .ptr 9001 0 [0], .ptr 9002 0 [0], .ptr 9003 0 [0]] : List TV).getD i .any]), (9003, .rcd [.dv (.int .i64) p3])] dec69c = cond (i0 == (p1.length : Int)) (some (true, p1, p2, p3))
      (chk (decide (0 ≤ i0)) (cond ((bAnd .i64 (Int.fdiv p2 (2 ^ min (Int.toNat i0) 64)) (1 : Int)) == (0 : Int)) ((a69c (w64 (i0 + (1 : Int))) p1 p2 p3).bind fun r1 =>
      some (r1.1, r1.2.1, r1.2.2.1, r1.2.2.2))
      ((R69c_0 a69c N N (Sl69ca i0 (1 : Int) p1 p3 p2))))) := by kernel_rfl
theorem k69c (a69c : Int → (List (Int × Int × Unit)) → Int → Int → Option (Bool × List (Int × Int × Unit) × Int × Int)) (N : Nat) (i0 : Int) (p1 : List (Int × Int × Unit)) (p2 : Int) (p3 : Int) : callF (E69c a69c) lv69c N en69c c69c (resOf Try.f69) 42 [.dv (.int .i64) i0, .ptr 9000 0 [0], .ptr 9001 0 [0], .ptr 9002 0 [0], .ptr 9003 0 [0]] [(9000, .rcd [.dv (.sl (.pair (.int .i64) (.pair (.int .i64) (.unit)))) p1]), (9001, .rcd [.dv (.int .i64) p2]), (9002, .rcd [.fn 69 0 4 fun i => ([.ptr 9000 0 [0], .ptr 9001 0 [0], .ptr 9002 0 [0], .ptr 9003 0 [0]] : List TV).getD i .any]), (9003, .rcd [.dv (.int .i64) p3])] dec69c = m69c a69c N i0 p1 p2 p3 := by rw [wm69c]; simp only [m69c, ql69ca]
theorem ok69c (a69c : Int → (List (Int × Int × Unit)) → Int → Int → Option (Bool × List (Int × Int × Unit) × Int × Int)) (h69c : FnOk Try.prog 69 (F69c a69c)) (a : Int → (List (Int × Int × Unit)) → Int → Int → Option (Bool × List (Int × Int × Unit) × Int × Int)) (h : ∀ i0 p1 p2 p3 r, a i0 p1 p2 p3 = some r → (∃ N, m69c a69c N i0 p1 p2 p3 = some r)) : FnOk Try.prog 69 (F69c a) := by
  intro args Of x hx
  simp only [F69c] at hx
  split at hx
  · rename_i i0 p1 p2 f_0 p3 heqc
    have hc0 := congrArg (fun c : List (List TV) => c.getD 0 []) heqc
    obtain ⟨N, hN⟩ := h _ _ _ _ _ hx
    refine HSpec.etaL (args := [.dv (.int .i64) i0, .ptr 9000 0 [0], .ptr 9001 0 [0], .ptr 9002 0 [0], .ptr 9003 0 [0]]) (O := [(9000, .rcd [.dv (.sl (.pair (.int .i64) (.pair (.int .i64) (.unit)))) p1]), (9001, .rcd [.dv (.int .i64) p2]), (9002, .rcd [.fn 69 0 4 fun i => ([.ptr 9000 0 [0], .ptr 9001 0 [0], .ptr 9002 0 [0], .ptr 9003 0 [0]] : List TV).getD i .any]), (9003, .rcd [.dv (.int .i64) p3])]) ⟨TV.sim_refl _, TV.sim_refl _, TV.sim_refl _, TV.sim_refl _, TV.sim_refl _, trivial⟩ ⟨rfl, TO.sim_refl _, rfl, TO.sim_refl _, rfl, TO.sim_rcd ⟨TV.sim_fn hc0, trivial⟩, rfl, TO.sim_refl _, trivial⟩ (liftedS (L := [(69, F69c a69c)]) (rc := nrc) (fz := nfz) (fn := Try.f69) (by kernel_rfl) (by kernel_rfl) (by kernel_rfl) (by kernel_rfl) rfl ?_ ((k69c a69c N _ _ _ _).trans hN) ?_)
    · intro p hp; simp only [List.mem_cons, List.not_mem_nil, or_false] at hp; rcases hp with rfl; exact h69c
    · intro l o hd
      simp only [dec69c] at hd
      split at hd
      · rename_i heqd
        have hd0 := congrArg (fun c : List (List TV) => c.getD 0 []) heqd
        obtain rfl := Option.some.inj hd; exact ⟨TV.sim_refl _, ⟨rfl, TO.sim_refl _, rfl, TO.sim_refl _, rfl, TO.sim_rcd ⟨TV.sim_symm (TV.sim_fn hd0), trivial⟩, rfl, TO.sim_refl _, trivial⟩⟩
      · cases hd
  · cases hx
def E42 (a69c : Int → (List (Int × Int × Unit)) → Int → Int → Option (Bool × List (Int × Int × Unit) × Int × Int)) : Env := mkE TI TY [(69, F69c a69c)] nrc nfz
noncomputable def c42 : Code := bodyOf Try.f42
def lv42 : Nat → Option Norm := norms []
def en42 : End := ⟨[], ⟨[10], [], [], []⟩⟩
def dec42 (l : List TV) (o : List (Nat × TO)) : Option (Bool) := match l, o with | [.dv (.bool) x0], [] => some (x0) | _, _ => none
def m42 (a69c : Int → (List (Int × Int × Unit)) → Int → Int → Option (Bool × List (Int × Int × Unit) × Int × Int)) (N : Nat) (l0 : List (Int × Int × Unit)) (set1 : Int) : Option (Bool) :=
      (a69c (0 : Int) l0 set1 (0 : Int)).bind fun r1 =>
      some r1.1
theorem k42 (a69c : Int → (List (Int × Int × Unit)) → Int → Int → Option (Bool × List (Int × Int × Unit) × Int × Int)) (N : Nat) (l0 : List (Int × Int × Unit)) (set1 : Int) : callF (E42 a69c) lv42 N en42 c42 (resOf Try.f42) 8 [.dv (.sl (.pair (.int .i64) (.pair (.int .i64) (.unit)))) l0, .dv (.int .i64) set1] [] dec42 = m42 a69c N l0 set1 := by kernel_rfl
theorem ok42 (a69c : Int → (List (Int × Int × Unit)) → Int → Int → Option (Bool × List (Int × Int × Unit) × Int × Int)) (h69c : FnOk Try.prog 69 (F69c a69c)) (a : (List (Int × Int × Unit)) → Int → Option (Bool)) (h : ∀ l0 set1 r, a l0 set1 = some r → (∃ N, m42 a69c N l0 set1 = some r)) : FnOk Try.prog 42 (F42 a) := by
  intro args Of x hx
  simp only [F42] at hx
  split at hx
  · rename_i l0 set1
    obtain ⟨N, hN⟩ := h _ _ _ hx
    refine lifted (L := [(69, F69c a69c)]) (rc := nrc) (fz := nfz) (fn := Try.f42) (by kernel_rfl) (by kernel_rfl) (by kernel_rfl) (by kernel_rfl) rfl ?_ ((k42 a69c N _ _).trans hN) ?_
    · intro p hp; simp only [List.mem_cons, List.not_mem_nil, or_false] at hp; rcases hp with rfl; exact h69c
    · intro l o hd
      simp only [dec42] at hd
      split at hd
      · obtain rfl := Option.some.inj hd; exact ⟨rfl, rfl⟩
      · cases hd
  · cases hx
def E68 : Env := mkE TI TY [] nrc nfz
noncomputable def c68 : Code := bodyOf Try.f68
def nm68_0 : Norm := ⟨[1, 5, 8, 9, 10], [], [], []⟩
def lv68 : Nat → Option Norm := norms [(3, nm68_0)]
def en68 : End := ⟨[], ⟨[26], [], [], []⟩⟩
def dec68 (l : List TV) (o : List (Nat × TO)) : Option (Int) := match l, o with | [.dv (.int .i64) x0], [] => some (x0) | _, _ => none
noncomputable def K68_0 (N : Nat) : Kont (Int) := kont (E68) lv68 N c68 [1, 1, 0, 1, 0] (fin TI en68 (resOf Try.f68) dec68)
noncomputable def R68_0 (N : Nat) (m : Nat) : TS → Option (Int) := loopK (den (E68) lv68 N (sub c68 [1, 1, 0, 1, 0, 0])) (TS.norm nm68_0) (K68_0 N) m
def Sl68a (l0 : List (Int × Int × Unit)) (set1 : Int) (n5_a : Int) (t10_a : Int) : TS := ⟨slots 26 [(1, .dv (.int .i64) set1), (5, .dv (.int .i64) n5_a), (8, .dv (.sl (.pair (.int .i64) (.pair (.int .i64) (.unit)))) l0), (9, .dv (.int .i64) (l0.length : Int)), (10, .dv (.int .i64) t10_a)], []⟩
def l68a (N : Nat) (l0 : List (Int × Int × Unit)) (set1 : Int) : Nat → Int → Int → Option (Int)
  | 0, _, _ => none
  | n + 1, n5_a, t10_a => cond (decide (t10_a < (l0.length : Int))) (chk (decide (0 ≤ t10_a ∧ t10_a < (l0.length : Int))) (chk (decide (0 ≤ t10_a)) (cond ((bAnd .i64 (Int.fdiv set1 (2 ^ min (Int.toNat t10_a) 64)) (1 : Int)) == (0 : Int)) ((l68a N l0 set1 n (w64 (n5_a + (((l0.getD t10_a.toNat ((0 : Int), ((0 : Int), ()))).2).1))) (w64 (t10_a + (1 : Int)))))
      ((l68a N l0 set1 n n5_a (w64 (t10_a + (1 : Int))))))))
      (some n5_a)
theorem wl68a (N : Nat) (l0 : List (Int × Int × Unit)) (set1 : Int) (m : Nat) (n5_a : Int) (t10_a : Int) : R68_0 N (m + 1) (Sl68a l0 set1 n5_a t10_a) = cond (decide (t10_a < (l0.length : Int))) (chk (decide (0 ≤ t10_a ∧ t10_a < (l0.length : Int))) (chk (decide (0 ≤ t10_a)) (cond ((bAnd .i64 (Int.fdiv set1 (2 ^ min (Int.toNat t10_a) 64)) (1 : Int)) == (0 : Int)) ((R68_0 N m (Sl68a l0 set1 (w64 (n5_a + (((l0.getD t10_a.toNat ((0 : Int), ((0 : Int), ()))).2).1))) (w64 (t10_a + (1 : Int))))))
      ((R68_0 N m (Sl68a l0 set1 n5_a (w64 (t10_a + (1 : Int)))))))))
      (some n5_a) := by kernel_rfl
theorem ql68a (N : Nat) (l0 : List (Int × Int × Unit)) (set1 : Int) : ∀ (m : Nat) (n5_a : Int) (t10_a : Int), R68_0 N m (Sl68a l0 set1 n5_a t10_a) = l68a N l0 set1 m n5_a t10_a
        | 0, _, _ => rfl
        | m + 1, n5_a, t10_a => by rw [wl68a]; simp only [l68a, ql68a N l0 set1 m]
def m68 (N : Nat) (l0 : List (Int × Int × Unit)) (set1 : Int) : Option (Int) :=
      (l68a N l0 set1 N (0 : Int) (0 : Int))
theorem wm68 (N : Nat) (l0 : List (Int × Int × Unit)) (set1 : Int) : callF (E68) lv68 N en68 c68 (resOf Try.f68) 24 [.dv (.sl (.pair (.int .i64) (.pair (.int .i64) (.unit)))) l0, .dv (.int .i64) set1] [] dec68 = (R68_0 N N (Sl68a l0 set1 (0 : Int) (0 : Int))) := by kernel_rfl
theorem k68 (N : Nat) (l0 : List (Int × Int × Unit)) (set1 : Int) : callF (E68) lv68 N en68 c68 (resOf Try.f68) 24 [.dv (.sl (.pair (.int .i64) (.pair (.int .i64) (.unit)))) l0, .dv (.int .i64) set1] [] dec68 = m68 N l0 set1 := by rw [wm68]; simp only [m68, ql68a]
theorem ok68 (a : (List (Int × Int × Unit)) → Int → Option (Int)) (h : ∀ l0 set1 r, a l0 set1 = some r → (∃ N, m68 N l0 set1 = some r)) : FnOk Try.prog 68 (F68 a) := by
  intro args Of x hx
  simp only [F68] at hx
  split at hx
  · rename_i l0 set1
    obtain ⟨N, hN⟩ := h _ _ _ hx
    refine lifted (L := []) (rc := nrc) (fz := nfz) (fn := Try.f68) (by kernel_rfl) (by kernel_rfl) (by kernel_rfl) (by kernel_rfl) rfl ?_ ((k68 N _ _).trans hN) ?_
    · intro p hp; cases hp
    · intro l o hd
      simp only [dec68] at hd
      split at hd
      · obtain rfl := Option.some.inj hd; exact ⟨rfl, rfl⟩
      · cases hd
  · cases hx
def E41 (a42 : (List (Int × Int × Unit)) → Int → Option (Bool)) (a68 : (List (Int × Int × Unit)) → Int → Option (Int)) : Env := mkE TI TY [(42, F42 a42), (68, F68 a68)] nrc nfz
noncomputable def c41 : Code := bodyOf Try.f41
def nm41_0 : Norm := ⟨[0, 4, 6], [], [(.slot 5, 1005, .int .i64)], []⟩
def lv41 : Nat → Option Norm := norms [(4, nm41_0)]
def en41 : End := ⟨[(40, .sl (.int .i64))], ⟨[39, 40], [], [], []⟩⟩
def dec41 (l : List TV) (o : List (Nat × TO)) : Option (Int × List Int) := match l, o with | [.dv (.int .i64) x0, .dv (.sl (.int .i64)) x1], [] => some (x0, x1) | _, _ => none
noncomputable def K41_0 (a42 : (List (Int × Int × Unit)) → Int → Option (Bool)) (a68 : (List (Int × Int × Unit)) → Int → Option (Int)) (N : Nat) : Kont (Int × List Int) := kont (E41 a42 a68) lv41 N c41 [1, 1, 1, 0, 1, 0] (fin TI en41 (resOf Try.f41) dec41)
noncomputable def R41_0 (a42 : (List (Int × Int × Unit)) → Int → Option (Bool)) (a68 : (List (Int × Int × Unit)) → Int → Option (Int)) (N : Nat) (m : Nat) : TS → Option (Int × List Int) := loopK (den (E41 a42 a68) lv41 N (sub c41 [1, 1, 1, 0, 1, 0, 0])) (TS.norm nm41_0) (K41_0 a42 a68 N) m
def Sl41a (l0 : List (Int × Int × Unit)) (n4_a : Int) (set6_a : Int) (sets5_a : List Int) : TS := ⟨slots 39 [(0, .dv (.sl (.pair (.int .i64) (.pair (.int .i64) (.unit)))) l0), (4, .dv (.int .i64) n4_a), (5, .row 1005), (6, .dv (.int .i64) set6_a)], [(1005, .row (.int .i64) sets5_a)]⟩
def l41a (a42 : (List (Int × Int × Unit)) → Int → Option (Bool)) (a68 : (List (Int × Int × Unit)) → Int → Option (Int)) (N : Nat) (l0 : List (Int × Int × Unit)) : Nat → Int → Int → (List Int) → Option (Int × List Int)
  | 0, _, _, _ => none
  | n + 1, n4_a, set6_a, sets5_a => chk (decide (0 ≤ (l0.length : Int))) (cond (decide (set6_a < (IntKind.wrap .i64 ((1 : Int) * 2 ^ min (Int.toNat (l0.length : Int)) 64)))) ((a68 l0 set6_a).bind fun r2 =>
      cond (decide (r2 > n4_a)) ((l41a a42 a68 N l0 n n4_a (w64 (set6_a + (1 : Int))) sets5_a))
      ((a42 l0 set6_a).bind fun r3 =>
      cond (!r3) ((l41a a42 a68 N l0 n n4_a (w64 (set6_a + (1 : Int))) sets5_a))
      (cond (decide (r2 < n4_a)) ((l41a a42 a68 N l0 n r2 (w64 (set6_a + (1 : Int))) ([set6_a] : List Int)))
      (chk (small (sets5_a.length + 1) 8) ((l41a a42 a68 N l0 n n4_a (w64 (set6_a + (1 : Int))) (sets5_a ++ ([set6_a] : List Int))))))))
      (some (n4_a, sets5_a)))
theorem wl41a (a42 : (List (Int × Int × Unit)) → Int → Option (Bool)) (a68 : (List (Int × Int × Unit)) → Int → Option (Int)) (N : Nat) (l0 : List (Int × Int × Unit)) (m : Nat) (n4_a : Int) (set6_a : Int) (sets5_a : List Int) : R41_0 a42 a68 N (m + 1) (Sl41a l0 n4_a set6_a sets5_a) = chk (decide (0 ≤ (l0.length : Int))) (cond (decide (set6_a < (IntKind.wrap .i64 ((1 : Int) * 2 ^ min (Int.toNat (l0.length : Int)) 64)))) ((a68 l0 set6_a).bind fun r2 =>
      cond (decide (r2 > n4_a)) ((R41_0 a42 a68 N m (Sl41a l0 n4_a (w64 (set6_a + (1 : Int))) sets5_a)))
      ((a42 l0 set6_a).bind fun r3 =>
      cond (!r3) ((R41_0 a42 a68 N m (Sl41a l0 n4_a (w64 (set6_a + (1 : Int))) sets5_a)))
      (cond (decide (r2 < n4_a)) ((R41_0 a42 a68 N m (Sl41a l0 r2 (w64 (set6_a + (1 : Int))) ([set6_a] : List Int))))
      (chk (small (sets5_a.length + 1) 8) ((R41_0 a42 a68 N m (Sl41a l0 n4_a (w64 (set6_a + (1 : Int))) (sets5_a ++ ([set6_a] : List Int)))))))))
      (some (n4_a, sets5_a))) := by kernel_rfl
theorem ql41a (a42 : (List (Int × Int × Unit)) → Int → Option (Bool)) (a68 : (List (Int × Int × Unit)) → Int → Option (Int)) (N : Nat) (l0 : List (Int × Int × Unit)) : ∀ (m : Nat) (n4_a : Int) (set6_a : Int) (sets5_a : List Int), R41_0 a42 a68 N m (Sl41a l0 n4_a set6_a sets5_a) = l41a a42 a68 N l0 m n4_a set6_a sets5_a
        | 0, _, _, _ => rfl
        | m + 1, n4_a, set6_a, sets5_a => by rw [wl41a]; simp only [l41a, ql41a a42 a68 N l0 m]
def m41 (a42 : (List (Int × Int × Unit)) → Int → Option (Bool)) (a68 : (List (Int × Int × Unit)) → Int → Option (Int)) (N : Nat) (l0 : List (Int × Int × Unit)) : Option (Int × List Int) :=
      (a68 l0 (0 : Int)).bind fun r1 =>
      (l41a a42 a68 N l0 N r1 (0 : Int) ([] : List Int))
theorem wm41 (a42 : (List (Int × Int × Unit)) → Int → Option (Bool)) (a68 : (List (Int × Int × Unit)) → Int → Option (Int)) (N : Nat) (l0 : List (Int × Int × Unit)) : callF (E41 a42 a68) lv41 N en41 c41 (resOf Try.f41) 38 [.dv (.sl (.pair (.int .i64) (.pair (.int .i64) (.unit)))) l0] [] dec41 = (a68 l0 (0 : Int)).bind fun r1 =>
      (R41_0 a42 a68 N N (Sl41a l0 r1 (0 : Int) ([] : List Int))) := by kernel_rfl
theorem k41 (a42 : (List (Int × Int × Unit)) → Int → Option (Bool)) (a68 : (List (Int × Int × Unit)) → Int → Option (Int)) (N : Nat) (l0 : List (Int × Int × Unit)) : callF (E41 a42 a68) lv41 N en41 c41 (resOf Try.f41) 38 [.dv (.sl (.pair (.int .i64) (.pair (.int .i64) (.unit)))) l0] [] dec41 = m41 a42 a68 N l0 := by rw [wm41]; simp only [m41, ql41a]
theorem ok41 (a42 : (List (Int × Int × Unit)) → Int → Option (Bool)) (a68 : (List (Int × Int × Unit)) → Int → Option (Int)) (h42 : FnOk Try.prog 42 (F42 a42)) (h68 : FnOk Try.prog 68 (F68 a68)) (a : (List (Int × Int × Unit)) → Option (Int × List Int)) (h : ∀ l0 r, a l0 = some r → (∃ N, m41 a42 a68 N l0 = some r)) : FnOk Try.prog 41 (F41 a) := by
  intro args Of x hx
  simp only [F41] at hx
  split at hx
  · rename_i l0
    obtain ⟨N, hN⟩ := h _ _ hx
    refine lifted (L := [(42, F42 a42), (68, F68 a68)]) (rc := nrc) (fz := nfz) (fn := Try.f41) (by kernel_rfl) (by kernel_rfl) (by kernel_rfl) (by kernel_rfl) rfl ?_ ((k41 a42 a68 N _).trans hN) ?_
    · intro p hp; simp only [List.mem_cons, List.not_mem_nil, or_false] at hp; rcases hp with rfl | rfl
      · exact h42
      · exact h68
    · intro l o hd
      simp only [dec41] at hd
      split at hd
      · obtain rfl := Option.some.inj hd; exact ⟨rfl, rfl⟩
      · cases hd
  · cases hx
def E43 : Env := mkE TI TY [] nrc nfz
noncomputable def c43 : Code := bodyOf Try.f43
def nm43_0 : Norm := ⟨[0, 4], [], [(.slot 3, 1003, .int .i64)], []⟩
def lv43 : Nat → Option Norm := norms [(3, nm43_0)]
def en43 : End := ⟨[(19, .sl (.int .i64))], ⟨[19], [], [], []⟩⟩
def dec43 (l : List TV) (o : List (Nat × TO)) : Option (List Int) := match l, o with | [.dv (.sl (.int .i64)) x0], [] => some (x0) | _, _ => none
noncomputable def K43_0 (N : Nat) : Kont (List Int) := kont (E43) lv43 N c43 [1, 1, 0, 1, 0] (fin TI en43 (resOf Try.f43) dec43)
noncomputable def R43_0 (N : Nat) (m : Nat) : TS → Option (List Int) := loopK (den (E43) lv43 N (sub c43 [1, 1, 0, 1, 0, 0])) (TS.norm nm43_0) (K43_0 N) m
def Sl43a (set0 : Int) (i4_a : Int) (out3_a : List Int) : TS := ⟨slots 19 [(0, .dv (.int .i64) set0), (3, .row 1003), (4, .dv (.int .i64) i4_a)], [(1003, .row (.int .i64) out3_a)]⟩
def l43a (N : Nat) (set0 : Int) : Nat → Int → (List Int) → Option (List Int)
  | 0, _, _ => none
  | n + 1, i4_a, out3_a => cond (decide (i4_a < (12 : Int))) (chk (decide (0 ≤ i4_a)) (cond ((bAnd .i64 (Int.fdiv set0 (2 ^ min (Int.toNat i4_a) 64)) (1 : Int)) == (1 : Int)) (chk (small (out3_a.length + 1) 8) ((l43a N set0 n (w64 (i4_a + (1 : Int))) (out3_a ++ ([i4_a] : List Int)))))
      ((l43a N set0 n (w64 (i4_a + (1 : Int))) out3_a))))
      (some out3_a)
theorem wl43a (N : Nat) (set0 : Int) (m : Nat) (i4_a : Int) (out3_a : List Int) : R43_0 N (m + 1) (Sl43a set0 i4_a out3_a) = cond (decide (i4_a < (12 : Int))) (chk (decide (0 ≤ i4_a)) (cond ((bAnd .i64 (Int.fdiv set0 (2 ^ min (Int.toNat i4_a) 64)) (1 : Int)) == (1 : Int)) (chk (small (out3_a.length + 1) 8) ((R43_0 N m (Sl43a set0 (w64 (i4_a + (1 : Int))) (out3_a ++ ([i4_a] : List Int))))))
      ((R43_0 N m (Sl43a set0 (w64 (i4_a + (1 : Int))) out3_a)))))
      (some out3_a) := by kernel_rfl
theorem ql43a (N : Nat) (set0 : Int) : ∀ (m : Nat) (i4_a : Int) (out3_a : List Int), R43_0 N m (Sl43a set0 i4_a out3_a) = l43a N set0 m i4_a out3_a
        | 0, _, _ => rfl
        | m + 1, i4_a, out3_a => by rw [wl43a]; simp only [l43a, ql43a N set0 m]
def m43 (N : Nat) (set0 : Int) : Option (List Int) :=
      (l43a N set0 N (0 : Int) ([] : List Int))
theorem wm43 (N : Nat) (set0 : Int) : callF (E43) lv43 N en43 c43 (resOf Try.f43) 18 [.dv (.int .i64) set0] [] dec43 = (R43_0 N N (Sl43a set0 (0 : Int) ([] : List Int))) := by kernel_rfl
theorem k43 (N : Nat) (set0 : Int) : callF (E43) lv43 N en43 c43 (resOf Try.f43) 18 [.dv (.int .i64) set0] [] dec43 = m43 N set0 := by rw [wm43]; simp only [m43, ql43a]
theorem ok43 (a : Int → Option (List Int)) (h : ∀ set0 r, a set0 = some r → (∃ N, m43 N set0 = some r)) : FnOk Try.prog 43 (F43 a) := by
  intro args Of x hx
  simp only [F43] at hx
  split at hx
  · rename_i set0
    obtain ⟨N, hN⟩ := h _ _ hx
    refine lifted (L := []) (rc := nrc) (fz := nfz) (fn := Try.f43) (by kernel_rfl) (by kernel_rfl) (by kernel_rfl) (by kernel_rfl) rfl ?_ ((k43 N _).trans hN) ?_
    · intro p hp; cases hp
    · intro l o hd
      simp only [dec43] at hd
      split at hd
      · obtain rfl := Option.some.inj hd; exact ⟨rfl, rfl⟩
      · cases hd
  · cases hx
end Go.Proofs.Ytbblnbolabpfmaa
