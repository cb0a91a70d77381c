/-
  The functions that the law reaches, told as plain functions.
-/
import Derived.Test.YtjcgjbdlgmbepaaWM0
import Derived.Test.YtjcgjbdlgmbepaaWRM
import Derived.Test.YtjcgjbdlgmbepaaWLM
namespace Go.Proofs.Ytjcgjbdlgmbepaa
open Go.RowKit
set_option linter.unusedVariables false
def E43 (a51 : (List Int) → Option (List Int)) : Env := mkE TI TY [(51, F51 a51)] nrc nfz
noncomputable def c43 : Code := bodyOf Try.f43
def nm43_0 : Norm := ⟨[0, 4, 5], [], [(.slot 3, 1003, .int .i64)], []⟩
def lv43 : Nat → Option Norm := norms [(4, nm43_0)]
def en43 : End := ⟨[(34, .sl (.int .i64))], ⟨[34], [], [], []⟩⟩
def dec43 (l : List TV) (o : List (Nat × TO)) : Option (List Int) := match l, o with | [.dv (.sl (.int .i64)) x0], [] => some (x0) | _, _ => none
noncomputable def K43_0 (a51 : (List Int) → Option (List Int)) (N : Nat) : Kont (List Int) := kont (E43 a51) lv43 N c43 [1, 1, 1, 0, 1, 0] (fin TI en43 (resOf Try.f43) dec43)
noncomputable def R43_0 (a51 : (List Int) → Option (List Int)) (N : Nat) (m : Nat) : TS → Option (List Int) := loopK (den (E43 a51) lv43 N (sub c43 [1, 1, 1, 0, 1, 0, 0])) (TS.norm nm43_0) (K43_0 a51 N) m
def Sl43a (by0 : List Int) (last4_a : Int) (i5_a : Int) (out3_a : List Int) : TS := ⟨slots 34 [(0, .dv (.sl (.int .u8)) by0), (3, .row 1003), (4, .dv (.int .i64) last4_a), (5, .dv (.int .i64) i5_a)], [(1003, .row (.int .i64) out3_a)]⟩
def l43a (a51 : (List Int) → Option (List Int)) (N : Nat) (by0 : List Int) : Nat → Int → Int → (List Int) → Option (List Int)
  | 0, _, _, _ => none
  | n + 1, last4_a, i5_a, out3_a => cond (decide (i5_a < (by0.length : Int))) (cond (decide (i5_a < (5 : Int))) (chk (decide (0 ≤ i5_a ∧ i5_a < (by0.length : Int))) (chk (small (out3_a.length + 1) 8) ((l43a a51 N by0 n (w64 (last4_a + (Int.tmod (w64 (by0.getD i5_a.toNat (0 : Int))) (12 : Int)))) (w64 (i5_a + (1 : Int))) (out3_a ++ ([w64 (last4_a + (Int.tmod (w64 (by0.getD i5_a.toNat (0 : Int))) (12 : Int)))] : List Int))))))
      (cond ((out3_a.length : Int) == (0 : Int)) ((a51 ([(2 : Int)] : List Int)).bind fun r1 =>
      some r1)
      (some out3_a)))
      (cond ((out3_a.length : Int) == (0 : Int)) ((a51 ([(2 : Int)] : List Int)).bind fun r2 =>
      some r2)
      (some out3_a))
theorem wl43a (a51 : (List Int) → Option (List Int)) (N : Nat) (by0 : List Int) (m : Nat) (last4_a : Int) (i5_a : Int) (out3_a : List Int) : R43_0 a51 N (m + 1) (Sl43a by0 last4_a i5_a out3_a) = cond (decide (i5_a < (by0.length : Int))) (cond (decide (i5_a < (5 : Int))) (chk (decide (0 ≤ i5_a ∧ i5_a < (by0.length : Int))) (chk (small (out3_a.length + 1) 8) ((R43_0 a51 N m (Sl43a by0 (w64 (last4_a + (Int.tmod (w64 (by0.getD i5_a.toNat (0 : Int))) (12 : Int)))) (w64 (i5_a + (1 : Int))) (out3_a ++ ([w64 (last4_a + (Int.tmod (w64 (by0.getD i5_a.toNat (0 : Int))) (12 : Int)))] : List Int)))))))
      (cond ((out3_a.length : Int) == (0 : Int)) ((a51 ([(2 : Int)] : List Int)).bind fun r1 =>
      some r1)
      (some out3_a)))
      (cond ((out3_a.length : Int) == (0 : Int)) ((a51 ([(2 : Int)] : List Int)).bind fun r2 =>
      some r2)
      (some out3_a)) := by kernel_rfl
theorem ql43a (a51 : (List Int) → Option (List Int)) (N : Nat) (by0 : List Int) : ∀ (m : Nat) (last4_a : Int) (i5_a : Int) (out3_a : List Int), R43_0 a51 N m (Sl43a by0 last4_a i5_a out3_a) = l43a a51 N by0 m last4_a i5_a out3_a
        | 0, _, _, _ => rfl
        | m + 1, last4_a, i5_a, out3_a => by rw [wl43a]; simp only [l43a, ql43a a51 N by0 m]
def m43 (a51 : (List Int) → Option (List Int)) (N : Nat) (by0 : List Int) : Option (List Int) :=
      (l43a a51 N by0 N (1 : Int) (0 : Int) ([] : List Int))
theorem wm43 (a51 : (List Int) → Option (List Int)) (N : Nat) (by0 : List Int) : callF (E43 a51) lv43 N en43 c43 (resOf Try.f43) 33 [.dv (.sl (.int .u8)) by0] [] dec43 = (R43_0 a51 N N (Sl43a by0 (1 : Int) (0 : Int) ([] : List Int))) := by kernel_rfl
theorem k43 (a51 : (List Int) → Option (List Int)) (N : Nat) (by0 : List Int) : callF (E43 a51) lv43 N en43 c43 (resOf Try.f43) 33 [.dv (.sl (.int .u8)) by0] [] dec43 = m43 a51 N by0 := by rw [wm43]; simp only [m43, ql43a]
theorem ok43 (a51 : (List Int) → Option (List Int)) (h51 : FnOk Try.prog 51 (F51 a51)) (a : (List Int) → Option (List Int)) (h : ∀ by0 r, a by0 = some r → (∃ N, m43 a51 N by0 = some r)) : FnOk Try.prog 43 (F43 a) := by
  intro args Of x hx
  simp only [F43] at hx
  split at hx
  · rename_i by0
    obtain ⟨N, hN⟩ := h _ _ hx
    refine lifted (L := [(51, F51 a51)]) (rc := nrc) (fz := nfz) (fn := Try.f43) (by kernel_rfl) (by kernel_rfl) (by kernel_rfl) (by kernel_rfl) rfl ?_ ((k43 a51 N _).trans hN) ?_
    · intro p hp; simp only [List.mem_cons, List.not_mem_nil, or_false] at hp; rcases hp with rfl; exact h51
    · intro l o hd
      simp only [dec43] at hd
      split at hd
      · obtain rfl := Option.some.inj hd; exact ⟨rfl, rfl⟩
      · cases hd
  · cases hx
def E46 : Env := mkE TI TY [] nrc nfz
noncomputable def c46 : Code := bodyOf Try.f46
def nm46_0 : Norm := ⟨[0, 4, 5, 8, 9, 10], [], [], []⟩
def lv46 : Nat → Option Norm := norms [(2, nm46_0)]
def en46 : End := ⟨[], ⟨[31, 32], [], [], []⟩⟩
def dec46 (l : List TV) (o : List (Nat × TO)) : Option (Int × Int) := match l, o with | [.dv (.int .i64) x0, .dv (.int .i64) x1], [] => some (x0, x1) | _, _ => none
noncomputable def K46_0 (N : Nat) : Kont (Int × Int) := kont (E46) lv46 N c46 [1, 0, 1, 0] (fin TI en46 (resOf Try.f46) dec46)
noncomputable def R46_0 (N : Nat) (m : Nat) : TS → Option (Int × Int) := loopK (den (E46) lv46 N (sub c46 [1, 0, 1, 0, 0])) (TS.norm nm46_0) (K46_0 N) m
def Sl46a (weights0 : List Int) (l1 : List Int) (sum4_a : Int) (used5_a : Int) (t10_a : Int) : TS := ⟨slots 31 [(0, .dv (.sl (.int .i64)) weights0), (4, .dv (.int .i64) sum4_a), (5, .dv (.int .i64) used5_a), (8, .dv (.sl (.int .i64)) l1), (9, .dv (.int .i64) (l1.length : Int)), (10, .dv (.int .i64) t10_a)], []⟩
def l46a (N : Nat) (weights0 : List Int) (l1 : List Int) : Nat → Int → Int → Int → Option (Int × Int)
  | 0, _, _, _ => none
  | n + 1, sum4_a, used5_a, t10_a => cond (decide (t10_a < (l1.length : Int))) (chk (decide (0 ≤ t10_a ∧ t10_a < (l1.length : Int))) (chk (decide (0 ≤ t10_a ∧ t10_a < (weights0.length : Int))) ((l46a N weights0 l1 n (w64 (sum4_a + (w64 ((l1.getD t10_a.toNat (0 : Int)) * (weights0.getD t10_a.toNat (0 : Int)))))) (w64 (used5_a + (w64 ((l1.getD t10_a.toNat (0 : Int)) * (l1.getD t10_a.toNat (0 : Int)))))) (w64 (t10_a + (1 : Int)))))))
      (some (sum4_a, used5_a))
theorem wl46a (N : Nat) (weights0 : List Int) (l1 : List Int) (m : Nat) (sum4_a : Int) (used5_a : Int) (t10_a : Int) : R46_0 N (m + 1) (Sl46a weights0 l1 sum4_a used5_a t10_a) = cond (decide (t10_a < (l1.length : Int))) (chk (decide (0 ≤ t10_a ∧ t10_a < (l1.length : Int))) (chk (decide (0 ≤ t10_a ∧ t10_a < (weights0.length : Int))) ((R46_0 N m (Sl46a weights0 l1 (w64 (sum4_a + (w64 ((l1.getD t10_a.toNat (0 : Int)) * (weights0.getD t10_a.toNat (0 : Int)))))) (w64 (used5_a + (w64 ((l1.getD t10_a.toNat (0 : Int)) * (l1.getD t10_a.toNat (0 : Int)))))) (w64 (t10_a + (1 : Int))))))))
      (some (sum4_a, used5_a)) := by kernel_rfl
theorem ql46a (N : Nat) (weights0 : List Int) (l1 : List Int) : ∀ (m : Nat) (sum4_a : Int) (used5_a : Int) (t10_a : Int), R46_0 N m (Sl46a weights0 l1 sum4_a used5_a t10_a) = l46a N weights0 l1 m sum4_a used5_a t10_a
        | 0, _, _, _ => rfl
        | m + 1, sum4_a, used5_a, t10_a => by rw [wl46a]; simp only [l46a, ql46a N weights0 l1 m]
def m46 (N : Nat) (weights0 : List Int) (l1 : List Int) : Option (Int × Int) :=
      (l46a N weights0 l1 N (0 : Int) (0 : Int) (0 : Int))
theorem wm46 (N : Nat) (weights0 : List Int) (l1 : List Int) : callF (E46) lv46 N en46 c46 (resOf Try.f46) 29 [.dv (.sl (.int .i64)) weights0, .dv (.sl (.int .i64)) l1] [] dec46 = (R46_0 N N (Sl46a weights0 l1 (0 : Int) (0 : Int) (0 : Int))) := by kernel_rfl
theorem k46 (N : Nat) (weights0 : List Int) (l1 : List Int) : callF (E46) lv46 N en46 c46 (resOf Try.f46) 29 [.dv (.sl (.int .i64)) weights0, .dv (.sl (.int .i64)) l1] [] dec46 = m46 N weights0 l1 := by rw [wm46]; simp only [m46, ql46a]
theorem ok46 (a : (List Int) → (List Int) → Option (Int × Int)) (h : ∀ weights0 l1 r, a weights0 l1 = some r → (∃ N, m46 N weights0 l1 = some r)) : FnOk Try.prog 46 (F46 a) := by
  intro args Of x hx
  simp only [F46] at hx
  split at hx
  · rename_i weights0 l1
    obtain ⟨N, hN⟩ := h _ _ _ hx
    refine lifted (L := []) (rc := nrc) (fz := nfz) (fn := Try.f46) (by kernel_rfl) (by kernel_rfl) (by kernel_rfl) (by kernel_rfl) rfl ?_ ((k46 N _ _).trans hN) ?_
    · intro p hp; cases hp
    · intro l o hd
      simp only [dec46] at hd
      split at hd
      · obtain rfl := Option.some.inj hd; exact ⟨rfl, rfl⟩
      · cases hd
  · cases hx
def E45c (a46 : (List Int) → (List Int) → Option (Int × Int)) : Env := mkE TI TY [(46, F46 a46)] nrc nfz
noncomputable def c45c : Code := bodyOf Try.f45
def lv45c : Nat → Option Norm := norms []
def en45c : End := ⟨[], ⟨[], [9000, 9001, 9002, 9003], [], []⟩⟩
def dec45c (l : List TV) (o : List (Nat × TO)) : Option (Int × List Int × List (Int × Bool)) := match l, o with | [], [(9000, .rcd [.dv (.int .i64) x0]), (9001, .rcd [.dv (.sl (.int .i64)) x1]), (9002, .rcd [.row 9003]), (9003, .map (.int .i64) (.bool) x2)] => some (x0, x1, x2) | _, _ => none
def m45c (a46 : (List Int) → (List Int) → Option (Int × Int)) (N : Nat) (l0 : List Int) (p1 : Int) (p2 : List Int) (p3 : List (Int × Bool)) : Option (Int × List Int × List (Int × Bool)) :=
      (a46 p2 l0).bind fun r1 =>
      cond (decide (r1.1 > (0 : Int))) (some (w64 (p1 + (1 : Int)), p2, mput (kt := .int .i64) (vt := .bool) p3 r1.1 true))
      (some (w64 (p1 + (1 : Int)), p2, p3))
theorem k45c (a46 : (List Int) → (List Int) → Option (Int × Int)) (N : Nat) (l0 : List Int) (p1 : Int) (p2 : List Int) (p3 : List (Int × Bool)) : callF (E45c a46) lv45c N en45c c45c (resOf Try.f45) 15 [.dv (.sl (.int .i64)) l0, .ptr 9000 0 [0], .ptr 9001 0 [0], .ptr 9002 0 [0]] [(9000, .rcd [.dv (.int .i64) p1]), (9001, .rcd [.dv (.sl (.int .i64)) p2]), (9002, .rcd [.row 9003]), (9003, .map (.int .i64) (.bool) p3)] dec45c = m45c a46 N l0 p1 p2 p3 := by kernel_rfl
theorem ok45c (a46 : (List Int) → (List Int) → Option (Int × Int)) (h46 : FnOk Try.prog 46 (F46 a46)) (a : (List Int) → Int → (List Int) → (List (Int × Bool)) → Option (Int × List Int × List (Int × Bool))) (h : ∀ l0 p1 p2 p3 r, a l0 p1 p2 p3 = some r → (∃ N, m45c a46 N l0 p1 p2 p3 = some r)) : FnOk Try.prog 45 (F45c a) := by
  intro args Of x hx
  simp only [F45c] at hx
  split at hx
  · rename_i l0 p1 p2 p3
    obtain ⟨N, hN⟩ := h _ _ _ _ _ hx
    refine lifted (L := [(46, F46 a46)]) (rc := nrc) (fz := nfz) (fn := Try.f45) (by kernel_rfl) (by kernel_rfl) (by kernel_rfl) (by kernel_rfl) rfl ?_ ((k45c a46 N _ _ _ _).trans hN) ?_
    · intro p hp; simp only [List.mem_cons, List.not_mem_nil, or_false] at hp; rcases hp with rfl; exact h46
    · intro l o hd
      simp only [dec45c] at hd
      split at hd
      · obtain rfl := Option.some.inj hd; exact ⟨rfl, rfl⟩
      · cases hd
  · cases hx
def E44c45 (a44c45 : Int → (List Int) → Int → (List Int) → (List (Int × Bool)) → Option (Int × List Int × List (Int × Bool))) (a45c : (List Int) → Int → (List Int) → (List (Int × Bool)) → Option (Int × List Int × List (Int × Bool))) (a51 : (List Int) → Option (List Int)) : Env := mkE TI TY [(44, F44c45 a44c45), (45, F45c a45c), (51, F51 a51)] nrc nfz
noncomputable def c44c45 : Code := bodyOf Try.f44
def nm44c45_0 : Norm := ⟨[0, 1, 2, 14, 15, 16], [9000, 9001, 9002, 9003], [], []⟩
def lv44c45 : Nat → Option Norm := norms [(3, nm44c45_0)]
def en44c45 : End := ⟨[], ⟨[], [9000, 9001, 9002, 9003], [], []⟩⟩
def dec44c45 (l : List TV) (o : List (Nat × TO)) : Option (Int × List Int × List (Int × Bool)) := match l, o with | [], [(9000, .rcd [.dv (.int .i64) x0]), (9001, .rcd [.dv (.sl (.int .i64)) x1]), (9002, .rcd [.row 9003]), (9003, .map (.int .i64) (.bool) x2)] => some (x0, x1, x2) | _, _ => none
noncomputable def K44c45_0 (a44c45 : Int → (List Int) → Int → (List Int) → (List (Int × Bool)) → Option (Int × List Int × List (Int × Bool))) (a45c : (List Int) → Int → (List Int) → (List (Int × Bool)) → Option (Int × List Int × List (Int × Bool))) (a51 : (List Int) → Option (List Int)) (N : Nat) : Kont (Int × List Int × List (Int × Bool)) := kont (E44c45 a44c45 a45c a51) lv44c45 N c44c45 [1, 1, 0] (fin TI en44c45 (resOf Try.f44) dec44c45)
noncomputable def R44c45_0 (a44c45 : Int → (List Int) → Int → (List Int) → (List (Int × Bool)) → Option (Int × List Int × List (Int × Bool))) (a45c : (List Int) → Int → (List Int) → (List (Int × Bool)) → Option (Int × List Int × List (Int × Bool))) (a51 : (List Int) → Option (List Int)) (N : Nat) (m : Nat) : TS → Option (Int × List Int × List (Int × Bool)) := loopK (den (E44c45 a44c45 a45c a51) lv44c45 N (sub c44c45 [1, 1, 0, 0])) (TS.norm nm44c45_0) (K44c45_0 a44c45 a45c a51 N) m
def Sl44c45a (n0 : Int) (l1 : List Int) (r2 : List Int) (t16_a : Int) (o9000_af0 : Int) (o9001_af0 : List Int) (o9003_a : List (Int × Bool)) : TS := ⟨slots 31 [(0, .dv (.int .i64) n0), (1, .dv (.sl (.int .i64)) l1), (2, .fn 45 0 3 fun i => ([.ptr 9000 0 [0], .ptr 9001 0 [0], .ptr 9002 0 [0]] : List TV).getD i .any), (14, .dv (.sl (.int .i64)) r2), (15, .dv (.int .i64) (r2.length : Int)), (16, .dv (.int .i64) t16_a)], [(9000, .rcd [.dv (.int .i64) o9000_af0]), (9001, .rcd [.dv (.sl (.int .i64)) o9001_af0]), (9002, .rcd [.row 9003]), (9003, .map (.int .i64) (.bool) o9003_a)]⟩
def l44c45a (a44c45 : Int → (List Int) → Int → (List Int) → (List (Int × Bool)) → Option (Int × List Int × List (Int × Bool))) (a45c : (List Int) → Int → (List Int) → (List (Int × Bool)) → Option (Int × List Int × List (Int × Bool))) (a51 : (List Int) → Option (List Int)) (N : Nat) (n0 : Int) (l1 : List Int) (r2 : List Int) : Nat → Int → Int → (List Int) → (List (Int × Bool)) → Option (Int × List Int × List (Int × Bool))
  | 0, _, _, _, _ => none
  | n + 1, t16_a, o9000_af0, o9001_af0, o9003_a => cond (decide (t16_a < (r2.length : Int))) (chk (decide (0 ≤ t16_a ∧ t16_a < (r2.length : Int))) (chk (small (0 + l1.length) 8) (chk (small ((([] : List Int) ++ l1).length + 1) 8) ((a44c45 (w64 (n0 - (1 : Int))) ((([] : List Int) ++ l1) ++ ([r2.getD t16_a.toNat (0 : Int)] : List Int)) o9000_af0 o9001_af0 o9003_a).bind fun r3 =>
      (l44c45a a44c45 a45c a51 N n0 l1 r2 n (w64 (t16_a + (1 : Int))) r3.1 r3.2.1 r3.2.2)))))
      (some (o9000_af0, o9001_af0, o9003_a))
theorem wl44c45a (a44c45 : Int → (List Int) → Int → (List Int) → (List (Int × Bool)) → Option (Int × List Int × List (Int × Bool))) (a45c : (List Int) → Int → (List Int) → (List (Int × Bool)) → Option (Int × List Int × List (Int × Bool))) (a51 : (List Int) → Option (List Int)) (N : Nat) (n0 : Int) (l1 : List Int) (r2 : List Int) (m : Nat) (t16_a : Int) (o9000_af0 : Int) (o9001_af0 : List Int) (o9003_a : List (Int × Bool)) : R44c45_0 a44c45 a45c a51 N (m + 1) (Sl44c45a n0 l1 r2 t16_a o9000_af0 o9001_af0 o9003_a) = cond (decide (t16_a < (r2.length : Int))) (chk (decide (0 ≤ t16_a ∧ t16_a < (r2.length : Int))) (chk (small (0 + l1.length) 8) (chk (small ((([] : List Int) ++ l1).length + 1) 8) ((a44c45 (w64 (n0 - (1 : Int))) ((([] : List Int) ++ l1) ++ ([r2.getD t16_a.toNat (0 : Int)] : List Int)) o9000_af0 o9001_af0 o9003_a).bind fun r3 =>
      (R44c45_0 a44c45 a45c a51 N m (Sl44c45a n0 l1 r2 (w64 (t16_a + (1 : Int))) r3.1 r3.2.1 r3.2.2))))))
      (some (o9000_af0, o9001_af0, o9003_a)) := by kernel_rfl
theorem ql44c45a (a44c45 : Int → (List Int) → Int → (List Int) → (List (Int × Bool)) → Option (Int × List Int × List (Int × Bool))) (a45c : (List Int) → Int → (List Int) → (List (Int × Bool)) → Option (Int × List Int × List (Int × Bool))) (a51 : (List Int) → Option (List Int)) (N : Nat) (n0 : Int) (l1 : List Int) (r2 : List Int) : ∀ (m : Nat) (t16_a : Int) (o9000_af0 : Int) (o9001_af0 : List Int) (o9003_a : List (Int × Bool)), R44c45_0 a44c45 a45c a51 N m (Sl44c45a n0 l1 r2 t16_a o9000_af0 o9001_af0 o9003_a) = l44c45a a44c45 a45c a51 N n0 l1 r2 m t16_a o9000_af0 o9001_af0 o9003_a
        | 0, _, _, _, _ => rfl
        | m + 1, t16_a, o9000_af0, o9001_af0, o9003_a => by rw [wl44c45a]; simp only [l44c45a, ql44c45a a44c45 a45c a51 N n0 l1 r2 m]
def m44c45 (a44c45 : Int → (List Int) → Int → (List Int) → (List (Int × Bool)) → Option (Int × List Int × List (Int × Bool))) (a45c : (List Int) → Int → (List Int) → (List (Int × Bool)) → Option (Int × List Int × List (Int × Bool))) (a51 : (List Int) → Option (List Int)) (N : Nat) (n0 : Int) (l1 : List Int) (p2 : Int) (p3 : List Int) (p4 : List (Int × Bool)) : Option (Int × List Int × List (Int × Bool)) :=
      cond (n0 == (0 : Int)) ((a45c l1 p2 p3 p4).bind fun r1 =>
      some (r1.1, r1.2.1, r1.2.2))
      ((a51 ([(1 : Int), (0 : Int), (-1 : Int)] : List Int)).bind fun r2 =>
      (l44c45a a44c45 a45c a51 N n0 l1 r2 N (0 : Int) p2 p3 p4))
theorem wm44c45 (a44c45 : Int → (List Int) → Int → (List Int) → (List (Int × Bool)) → Option (Int × List Int × List (Int × Bool))) (a45c : (List Int) → Int → (List Int) → (List (Int × Bool)) → Option (Int × List Int × List (Int × Bool))) (a51 : (List Int) → Option (List Int)) (N : Nat) (n0 : Int) (l1 : List Int) (p2 : Int) (p3 : List Int) (p4 : List (Int × Bool)) : callF (E44c45 a44c45 a45c a51) lv44c45 N en44c45 c44c45 (resOf Try.f44) 28 [.dv (.int .i64) n0, .dv (.sl (.int .i64)) l1, .fn 45 0 3 fun i => ([.ptr 9000 0 [0], .ptr 9001 0 [0], .ptr 9002 0 [0]] : List TV).getD i .any] [(9000, .rcd [.dv (.int .i64) p2]), (9001, .rcd [.dv (.sl (.int .i64)) p3]), (9002, .rcd [.row 9003]), (9003, .map (.int .i64) (.bool) p4)] dec44c45 = cond (n0 == (0 : Int)) ((a45c l1 p2 p3 p4).bind fun r1 =>
      some (r1.1, r1.2.1, r1.2.2))
      ((a51 ([(1 : Int), (0 : Int), (-1 : Int)] : List Int)).bind fun r2 =>
      (R44c45_0 a44c45 a45c a51 N N (Sl44c45a n0 l1 r2 (0 : Int) p2 p3 p4))) := by kernel_rfl
theorem k44c45 (a44c45 : Int → (List Int) → Int → (List Int) → (List (Int × Bool)) → Option (Int × List Int × List (Int × Bool))) (a45c : (List Int) → Int → (List Int) → (List (Int × Bool)) → Option (Int × List Int × List (Int × Bool))) (a51 : (List Int) → Option (List Int)) (N : Nat) (n0 : Int) (l1 : List Int) (p2 : Int) (p3 : List Int) (p4 : List (Int × Bool)) : callF (E44c45 a44c45 a45c a51) lv44c45 N en44c45 c44c45 (resOf Try.f44) 28 [.dv (.int .i64) n0, .dv (.sl (.int .i64)) l1, .fn 45 0 3 fun i => ([.ptr 9000 0 [0], .ptr 9001 0 [0], .ptr 9002 0 [0]] : List TV).getD i .any] [(9000, .rcd [.dv (.int .i64) p2]), (9001, .rcd [.dv (.sl (.int .i64)) p3]), (9002, .rcd [.row 9003]), (9003, .map (.int .i64) (.bool) p4)] dec44c45 = m44c45 a44c45 a45c a51 N n0 l1 p2 p3 p4 := by rw [wm44c45]; simp only [m44c45, ql44c45a]
theorem ok44c45 (a44c45 : Int → (List Int) → Int → (List Int) → (List (Int × Bool)) → Option (Int × List Int × List (Int × Bool))) (a45c : (List Int) → Int → (List Int) → (List (Int × Bool)) → Option (Int × List Int × List (Int × Bool))) (a51 : (List Int) → Option (List Int)) (h44c45 : FnOk Try.prog 44 (F44c45 a44c45)) (h45c : FnOk Try.prog 45 (F45c a45c)) (h51 : FnOk Try.prog 51 (F51 a51)) (a : Int → (List Int) → Int → (List Int) → (List (Int × Bool)) → Option (Int × List Int × List (Int × Bool))) (h : ∀ n0 l1 p2 p3 p4 r, a n0 l1 p2 p3 p4 = some r → (∃ N, m44c45 a44c45 a45c a51 N n0 l1 p2 p3 p4 = some r)) : FnOk Try.prog 44 (F44c45 a) := by
  intro args Of x hx
  simp only [F44c45] at hx
  split at hx
  · rename_i n0 l1 f_0 p2 p3 p4 heqc
    have hc0 := congrArg (fun c : List (List TV) => c.getD 0 []) heqc
    obtain ⟨N, hN⟩ := h _ _ _ _ _ _ hx
    refine HSpec.etaL (args := [.dv (.int .i64) n0, .dv (.sl (.int .i64)) l1, .fn 45 0 3 fun i => ([.ptr 9000 0 [0], .ptr 9001 0 [0], .ptr 9002 0 [0]] : List TV).getD i .any]) (O := [(9000, .rcd [.dv (.int .i64) p2]), (9001, .rcd [.dv (.sl (.int .i64)) p3]), (9002, .rcd [.row 9003]), (9003, .map (.int .i64) (.bool) p4)]) ⟨TV.sim_refl _, TV.sim_refl _, TV.sim_fn hc0, trivial⟩ ⟨rfl, TO.sim_refl _, rfl, TO.sim_refl _, rfl, TO.sim_refl _, rfl, TO.sim_refl _, trivial⟩ (lifted (L := [(44, F44c45 a44c45), (45, F45c a45c), (51, F51 a51)]) (rc := nrc) (fz := nfz) (fn := Try.f44) (by kernel_rfl) (by kernel_rfl) (by kernel_rfl) (by kernel_rfl) rfl ?_ ((k44c45 a44c45 a45c a51 N _ _ _ _ _).trans hN) ?_)
    · intro p hp; simp only [List.mem_cons, List.not_mem_nil, or_false] at hp; rcases hp with rfl | rfl | rfl
      · exact h44c45
      · exact h45c
      · exact h51
    · intro l o hd
      simp only [dec44c45] at hd
      split at hd
      · obtain rfl := Option.some.inj hd; exact ⟨rfl, rfl⟩
      · cases hd
  · cases hx
def E8 (a16 : Option (Bool)) (a17 : (List Int) → Option (List Int × Int)) (a19 : (List Int) → Option (Int × Int)) (a24 : Int → Option (Int × Int)) (a26 : Int → Option (List Int × Int)) (a43 : (List Int) → Option (List Int)) (a44c45 : Int → (List Int) → Int → (List Int) → (List (Int × Bool)) → Option (Int × List Int × List (Int × Bool))) : Env := mkE TI TY [(16, F16 a16), (17, F17 a17), (19, F19 a19), (24, F24 a24), (26, F26 a26), (43, F43 a43), (44, F44c45 a44c45)] (fun i => ([(5, [some (.sl (.int .i64))])] : List (Nat × List (Option DT))).lookup i) nfz
noncomputable def c8 : Code := bodyOf Try.f8
def nm8_0 : Norm := ⟨[1, 5, 6, 8, 10, 70, 71, 72], [5, 6, 26], [], []⟩
def nm8_1 : Norm := ⟨[1, 5, 6, 10, 14], [5, 6, 26], [], []⟩
def nm8_2 : Norm := ⟨[5, 10, 15, 16, 17, 18, 19, 20, 21], [5], [], []⟩
def lv8 : Nat → Option Norm := norms [(10, nm8_0), (16, nm8_1), (29, nm8_2)]
def en8 : End := ⟨[], ⟨[189], [], [], []⟩⟩
def dec8 (l : List TV) (o : List (Nat × TO)) : Option (Bool) := match l, o with | [.dv (.bool) x0], [] => some (x0) | _, _ => none
noncomputable def K8_0 (a16 : Option (Bool)) (a17 : (List Int) → Option (List Int × Int)) (a19 : (List Int) → Option (Int × Int)) (a24 : Int → Option (Int × Int)) (a26 : Int → Option (List Int × Int)) (a43 : (List Int) → Option (List Int)) (a44c45 : Int → (List Int) → Int → (List Int) → (List (Int × Bool)) → Option (Int × List Int × List (Int × Bool))) (N : Nat) : Kont (Bool) := kont (E8 a16 a17 a19 a24 a26 a43 a44c45) lv8 N c8 [1, 1, 1, 1, 1, 1, 1, 1, 0, 1, 0] (fin TI en8 (resOf Try.f8) dec8)
noncomputable def R8_0 (a16 : Option (Bool)) (a17 : (List Int) → Option (List Int × Int)) (a19 : (List Int) → Option (Int × Int)) (a24 : Int → Option (Int × Int)) (a26 : Int → Option (List Int × Int)) (a43 : (List Int) → Option (List Int)) (a44c45 : Int → (List Int) → Int → (List Int) → (List (Int × Bool)) → Option (Int × List Int × List (Int × Bool))) (N : Nat) (m : Nat) : TS → Option (Bool) := loopK (den (E8 a16 a17 a19 a24 a26 a43 a44c45) lv8 N (sub c8 [1, 1, 1, 1, 1, 1, 1, 1, 0, 1, 0, 0])) (TS.norm nm8_0) (K8_0 a16 a17 a19 a24 a26 a43 a44c45 N) m
noncomputable def K8_1 (a16 : Option (Bool)) (a17 : (List Int) → Option (List Int × Int)) (a19 : (List Int) → Option (Int × Int)) (a24 : Int → Option (Int × Int)) (a26 : Int → Option (List Int × Int)) (a43 : (List Int) → Option (List Int)) (a44c45 : Int → (List Int) → Int → (List Int) → (List (Int × Bool)) → Option (Int × List Int × List (Int × Bool))) (N : Nat) : Kont (Bool) := kont (E8 a16 a17 a19 a24 a26 a43 a44c45) lv8 N c8 [1, 1, 1, 1, 1, 1, 1, 1, 1, 0, 1, 0] (fin TI en8 (resOf Try.f8) dec8)
noncomputable def R8_1 (a16 : Option (Bool)) (a17 : (List Int) → Option (List Int × Int)) (a19 : (List Int) → Option (Int × Int)) (a24 : Int → Option (Int × Int)) (a26 : Int → Option (List Int × Int)) (a43 : (List Int) → Option (List Int)) (a44c45 : Int → (List Int) → Int → (List Int) → (List (Int × Bool)) → Option (Int × List Int × List (Int × Bool))) (N : Nat) (m : Nat) : TS → Option (Bool) := loopK (den (E8 a16 a17 a19 a24 a26 a43 a44c45) lv8 N (sub c8 [1, 1, 1, 1, 1, 1, 1, 1, 1, 0, 1, 0, 0])) (TS.norm nm8_1) (K8_1 a16 a17 a19 a24 a26 a43 a44c45 N) m
noncomputable def K8_2 (a16 : Option (Bool)) (a17 : (List Int) → Option (List Int × Int)) (a19 : (List Int) → Option (Int × Int)) (a24 : Int → Option (Int × Int)) (a26 : Int → Option (List Int × Int)) (a43 : (List Int) → Option (List Int)) (a44c45 : Int → (List Int) → Int → (List Int) → (List (Int × Bool)) → Option (Int × List Int × List (Int × Bool))) (N : Nat) : Kont (Bool) := kont (E8 a16 a17 a19 a24 a26 a43 a44c45) lv8 N c8 [1, 1, 1, 1, 1, 1, 1, 1, 1, 1, 1, 1, 1, 1, 1, 1, 0, 1, 0] (fin TI en8 (resOf Try.f8) dec8)
noncomputable def R8_2 (a16 : Option (Bool)) (a17 : (List Int) → Option (List Int × Int)) (a19 : (List Int) → Option (Int × Int)) (a24 : Int → Option (Int × Int)) (a26 : Int → Option (List Int × Int)) (a43 : (List Int) → Option (List Int)) (a44c45 : Int → (List Int) → Int → (List Int) → (List (Int × Bool)) → Option (Int × List Int × List (Int × Bool))) (N : Nat) (m : Nat) : TS → Option (Bool) := loopK (den (E8 a16 a17 a19 a24 a26 a43 a44c45) lv8 N (sub c8 [1, 1, 1, 1, 1, 1, 1, 1, 1, 1, 1, 1, 1, 1, 1, 1, 0, 1, 0, 0])) (TS.norm nm8_2) (K8_2 a16 a17 a19 a24 a26 a43 a44c45 N) m
def Sl8c (n1 : Int) (r2 : Int × List Int × List (Int × Bool)) (r4 : Int × Int) (r5 : Int × Int) (r6 : List Int × Int) (most18_c : Int) (less19_c : Int) (threes20_c : Int) (i21_c : Int) : TS := ⟨slots 189 [(5, .ptr 5 0 [0]), (10, .dv (.int .i64) r4.1), (15, .dv (.int .i64) (w64 ((1 : Int) + (Int.tmod (w64 (n1)) (1093 : Int))))), (16, .dv (.int .i64) r5.1), (17, .dv (.sl (.int .i64)) r6.1), (18, .dv (.int .i64) most18_c), (19, .dv (.int .i64) less19_c), (20, .dv (.int .i64) threes20_c), (21, .dv (.int .i64) i21_c)], [(5, .rcd [.dv (.sl (.int .i64)) r2.2.1])]⟩
def Sl8b (n1 : Int) (r2 : Int × List Int × List (Int × Bool)) (r4 : Int × Int) (x14_b : Int) : TS := ⟨slots 189 [(1, .dv (.int .u16) n1), (5, .ptr 5 0 [0]), (6, .ptr 6 0 [0]), (10, .dv (.int .i64) r4.1), (14, .dv (.int .i64) x14_b)], [(5, .rcd [.dv (.sl (.int .i64)) r2.2.1]), (6, .rcd [.row 26]), (26, .map (.int .i64) (.bool) r2.2.2)]⟩
def Sl8a (n1 : Int) (r2 : Int × List Int × List (Int × Bool)) (r3 : List Int × Int) (r4 : Int × Int) (t72_a : Int) : TS := ⟨slots 189 [(1, .dv (.int .u16) n1), (5, .ptr 5 0 [0]), (6, .ptr 6 0 [0]), (8, .dv (.sl (.int .i64)) r3.1), (10, .dv (.int .i64) r4.1), (70, .dv (.sl (.int .i64)) r3.1), (71, .dv (.int .i64) (r3.1.length : Int)), (72, .dv (.int .i64) t72_a)], [(5, .rcd [.dv (.sl (.int .i64)) r2.2.1]), (6, .rcd [.row 26]), (26, .map (.int .i64) (.bool) r2.2.2)]⟩
def l8c (a16 : Option (Bool)) (a17 : (List Int) → Option (List Int × Int)) (a19 : (List Int) → Option (Int × Int)) (a24 : Int → Option (Int × Int)) (a26 : Int → Option (List Int × Int)) (a43 : (List Int) → Option (List Int)) (a44c45 : Int → (List Int) → Int → (List Int) → (List (Int × Bool)) → Option (Int × List Int × List (Int × Bool))) (N : Nat) (n1 : Int) (r2 : Int × List Int × List (Int × Bool)) (r4 : Int × Int) (r5 : Int × Int) (r6 : List Int × Int) : Nat → Int → Int → Int → Int → Option (Bool)
  | 0, _, _, _, _ => none
  | n + 1, most18_c, less19_c, threes20_c, i21_c => cond (decide (i21_c < r5.1)) ((l8c a16 a17 a19 a24 a26 a43 a44c45 N n1 r2 r4 r5 r6 n (w64 (most18_c + threes20_c)) most18_c (w64 ((3 : Int) * threes20_c)) (w64 (i21_c + (1 : Int)))))
      ((a19 r6.1).bind fun r7 =>
      cond (decide (most18_c ≥ (w64 ((1 : Int) + (Int.tmod (w64 (n1)) (1093 : Int)))))) (cond (decide (less19_c < (w64 ((1 : Int) + (Int.tmod (w64 (n1)) (1093 : Int)))))) (cond (r7.2 == (0 : Int)) (cond (decide (r7.1 ≥ (w64 ((1 : Int) + (Int.tmod (w64 (n1)) (1093 : Int)))))) (cond (decide (r4.1 < (w64 ((1 : Int) + (Int.tmod (w64 (n1)) (1093 : Int)))))) ((a16).bind fun r8 =>
      some r8)
      (cond (decide ((r2.2.1.length : Int) ≥ r5.1)) ((a16).bind fun r9 =>
      some r9)
      (some false)))
      (some false))
      (some false))
      (some false))
      (some false))
theorem wl8c (a16 : Option (Bool)) (a17 : (List Int) → Option (List Int × Int)) (a19 : (List Int) → Option (Int × Int)) (a24 : Int → Option (Int × Int)) (a26 : Int → Option (List Int × Int)) (a43 : (List Int) → Option (List Int)) (a44c45 : Int → (List Int) → Int → (List Int) → (List (Int × Bool)) → Option (Int × List Int × List (Int × Bool))) (N : Nat) (n1 : Int) (r2 : Int × List Int × List (Int × Bool)) (r4 : Int × Int) (r5 : Int × Int) (r6 : List Int × Int) (m : Nat) (most18_c : Int) (less19_c : Int) (threes20_c : Int) (i21_c : Int) : R8_2 a16 a17 a19 a24 a26 a43 a44c45 N (m + 1) (Sl8c n1 r2 r4 r5 r6 most18_c less19_c threes20_c i21_c) = cond (decide (i21_c < r5.1)) ((R8_2 a16 a17 a19 a24 a26 a43 a44c45 N m (Sl8c n1 r2 r4 r5 r6 (w64 (most18_c + threes20_c)) most18_c (w64 ((3 : Int) * threes20_c)) (w64 (i21_c + (1 : Int))))))
      ((a19 r6.1).bind fun r7 =>
      cond (decide (most18_c ≥ (w64 ((1 : Int) + (Int.tmod (w64 (n1)) (1093 : Int)))))) (cond (decide (less19_c < (w64 ((1 : Int) + (Int.tmod (w64 (n1)) (1093 : Int)))))) (cond (r7.2 == (0 : Int)) (cond (decide (r7.1 ≥ (w64 ((1 : Int) + (Int.tmod (w64 (n1)) (1093 : Int)))))) (cond (decide (r4.1 < (w64 ((1 : Int) + (Int.tmod (w64 (n1)) (1093 : Int)))))) ((a16).bind fun r8 =>
      some r8)
      (cond (decide ((r2.2.1.length : Int) ≥ r5.1)) ((a16).bind fun r9 =>
      some r9)
      (some false)))
      (some false))
      (some false))
      (some false))
      (some false)) := by kernel_rfl
theorem ql8c (a16 : Option (Bool)) (a17 : (List Int) → Option (List Int × Int)) (a19 : (List Int) → Option (Int × Int)) (a24 : Int → Option (Int × Int)) (a26 : Int → Option (List Int × Int)) (a43 : (List Int) → Option (List Int)) (a44c45 : Int → (List Int) → Int → (List Int) → (List (Int × Bool)) → Option (Int × List Int × List (Int × Bool))) (N : Nat) (n1 : Int) (r2 : Int × List Int × List (Int × Bool)) (r4 : Int × Int) (r5 : Int × Int) (r6 : List Int × Int) : ∀ (m : Nat) (most18_c : Int) (less19_c : Int) (threes20_c : Int) (i21_c : Int), R8_2 a16 a17 a19 a24 a26 a43 a44c45 N m (Sl8c n1 r2 r4 r5 r6 most18_c less19_c threes20_c i21_c) = l8c a16 a17 a19 a24 a26 a43 a44c45 N n1 r2 r4 r5 r6 m most18_c less19_c threes20_c i21_c
        | 0, _, _, _, _ => rfl
        | m + 1, most18_c, less19_c, threes20_c, i21_c => by rw [wl8c]; simp only [l8c, ql8c a16 a17 a19 a24 a26 a43 a44c45 N n1 r2 r4 r5 r6 m]
def l8b (a16 : Option (Bool)) (a17 : (List Int) → Option (List Int × Int)) (a19 : (List Int) → Option (Int × Int)) (a24 : Int → Option (Int × Int)) (a26 : Int → Option (List Int × Int)) (a43 : (List Int) → Option (List Int)) (a44c45 : Int → (List Int) → Int → (List Int) → (List (Int × Bool)) → Option (Int × List Int × List (Int × Bool))) (N : Nat) (n1 : Int) (r2 : Int × List Int × List (Int × Bool)) (r4 : Int × Int) : Nat → Int → Option (Bool)
  | 0, _ => none
  | n + 1, x14_b => cond (decide (x14_b ≤ r4.1)) (cond (!((mget (kt := .int .i64) (vt := .bool) r2.2.2 x14_b).getD false)) (some false)
      ((l8b a16 a17 a19 a24 a26 a43 a44c45 N n1 r2 r4 n (w64 (x14_b + (1 : Int))))))
      (cond ((mget (kt := .int .i64) (vt := .bool) r2.2.2 (w64 (r4.1 + (1 : Int)))).getD false) (some false)
      ((a24 (w64 ((1 : Int) + (Int.tmod (w64 (n1)) (1093 : Int))))).bind fun r5 =>
      (a26 (w64 ((1 : Int) + (Int.tmod (w64 (n1)) (1093 : Int))))).bind fun r6 =>
      cond (r5.2 != (0 : Int)) (some false)
      (cond (r6.2 != (0 : Int)) (some false)
      (cond (decide (r5.1 < (1 : Int))) (some false)
      (cond (decide (r5.1 > (7 : Int))) (some false)
      (cond ((r6.1.length : Int) != r5.1) (some false)
      ((l8c a16 a17 a19 a24 a26 a43 a44c45 N n1 r2 r4 r5 r6 N (0 : Int) (0 : Int) (1 : Int) (0 : Int)))))))))
theorem wl8b (a16 : Option (Bool)) (a17 : (List Int) → Option (List Int × Int)) (a19 : (List Int) → Option (Int × Int)) (a24 : Int → Option (Int × Int)) (a26 : Int → Option (List Int × Int)) (a43 : (List Int) → Option (List Int)) (a44c45 : Int → (List Int) → Int → (List Int) → (List (Int × Bool)) → Option (Int × List Int × List (Int × Bool))) (N : Nat) (n1 : Int) (r2 : Int × List Int × List (Int × Bool)) (r4 : Int × Int) (m : Nat) (x14_b : Int) : R8_1 a16 a17 a19 a24 a26 a43 a44c45 N (m + 1) (Sl8b n1 r2 r4 x14_b) = cond (decide (x14_b ≤ r4.1)) (cond (!((mget (kt := .int .i64) (vt := .bool) r2.2.2 x14_b).getD false)) (some false)
      ((R8_1 a16 a17 a19 a24 a26 a43 a44c45 N m (Sl8b n1 r2 r4 (w64 (x14_b + (1 : Int)))))))
      (cond ((mget (kt := .int .i64) (vt := .bool) r2.2.2 (w64 (r4.1 + (1 : Int)))).getD false) (some false)
      ((a24 (w64 ((1 : Int) + (Int.tmod (w64 (n1)) (1093 : Int))))).bind fun r5 =>
      (a26 (w64 ((1 : Int) + (Int.tmod (w64 (n1)) (1093 : Int))))).bind fun r6 =>
      cond (r5.2 != (0 : Int)) (some false)
      (cond (r6.2 != (0 : Int)) (some false)
      (cond (decide (r5.1 < (1 : Int))) (some false)
      (cond (decide (r5.1 > (7 : Int))) (some false)
      (cond ((r6.1.length : Int) != r5.1) (some false)
      ((R8_2 a16 a17 a19 a24 a26 a43 a44c45 N N (Sl8c n1 r2 r4 r5 r6 (0 : Int) (0 : Int) (1 : Int) (0 : Int)))))))))) := by kernel_rfl
theorem ql8b (a16 : Option (Bool)) (a17 : (List Int) → Option (List Int × Int)) (a19 : (List Int) → Option (Int × Int)) (a24 : Int → Option (Int × Int)) (a26 : Int → Option (List Int × Int)) (a43 : (List Int) → Option (List Int)) (a44c45 : Int → (List Int) → Int → (List Int) → (List (Int × Bool)) → Option (Int × List Int × List (Int × Bool))) (N : Nat) (n1 : Int) (r2 : Int × List Int × List (Int × Bool)) (r4 : Int × Int) : ∀ (m : Nat) (x14_b : Int), R8_1 a16 a17 a19 a24 a26 a43 a44c45 N m (Sl8b n1 r2 r4 x14_b) = l8b a16 a17 a19 a24 a26 a43 a44c45 N n1 r2 r4 m x14_b
        | 0, _ => rfl
        | m + 1, x14_b => by rw [wl8b]; simp only [l8b, ql8c, ql8b a16 a17 a19 a24 a26 a43 a44c45 N n1 r2 r4 m]
def l8a (a16 : Option (Bool)) (a17 : (List Int) → Option (List Int × Int)) (a19 : (List Int) → Option (Int × Int)) (a24 : Int → Option (Int × Int)) (a26 : Int → Option (List Int × Int)) (a43 : (List Int) → Option (List Int)) (a44c45 : Int → (List Int) → Int → (List Int) → (List (Int × Bool)) → Option (Int × List Int × List (Int × Bool))) (N : Nat) (n1 : Int) (r2 : Int × List Int × List (Int × Bool)) (r3 : List Int × Int) (r4 : Int × Int) : Nat → Int → Option (Bool)
  | 0, _ => none
  | n + 1, t72_a => cond (decide (t72_a < (r3.1.length : Int))) (chk (decide (0 ≤ t72_a ∧ t72_a < (r3.1.length : Int))) (cond (!((mget (kt := .int .i64) (vt := .bool) r2.2.2 (r3.1.getD t72_a.toNat (0 : Int))).getD false)) (some false)
      (cond (decide (t72_a > (0 : Int))) (chk (decide (0 ≤ w64 (t72_a - (1 : Int)) ∧ w64 (t72_a - (1 : Int)) < (r3.1.length : Int))) (cond (decide ((r3.1.getD t72_a.toNat (0 : Int)) ≤ (r3.1.getD ((w64 (t72_a - (1 : Int))).toNat) (0 : Int)))) (some false)
      ((l8a a16 a17 a19 a24 a26 a43 a44c45 N n1 r2 r3 r4 n (w64 (t72_a + (1 : Int)))))))
      ((l8a a16 a17 a19 a24 a26 a43 a44c45 N n1 r2 r3 r4 n (w64 (t72_a + (1 : Int))))))))
      ((l8b a16 a17 a19 a24 a26 a43 a44c45 N n1 r2 r4 N (1 : Int)))
theorem wl8a (a16 : Option (Bool)) (a17 : (List Int) → Option (List Int × Int)) (a19 : (List Int) → Option (Int × Int)) (a24 : Int → Option (Int × Int)) (a26 : Int → Option (List Int × Int)) (a43 : (List Int) → Option (List Int)) (a44c45 : Int → (List Int) → Int → (List Int) → (List (Int × Bool)) → Option (Int × List Int × List (Int × Bool))) (N : Nat) (n1 : Int) (r2 : Int × List Int × List (Int × Bool)) (r3 : List Int × Int) (r4 : Int × Int) (m : Nat) (t72_a : Int) : R8_0 a16 a17 a19 a24 a26 a43 a44c45 N (m + 1) (Sl8a n1 r2 r3 r4 t72_a) = cond (decide (t72_a < (r3.1.length : Int))) (chk (decide (0 ≤ t72_a ∧ t72_a < (r3.1.length : Int))) (cond (!((mget (kt := .int .i64) (vt := .bool) r2.2.2 (r3.1.getD t72_a.toNat (0 : Int))).getD false)) (some false)
      (cond (decide (t72_a > (0 : Int))) (chk (decide (0 ≤ w64 (t72_a - (1 : Int)) ∧ w64 (t72_a - (1 : Int)) < (r3.1.length : Int))) (cond (decide ((r3.1.getD t72_a.toNat (0 : Int)) ≤ (r3.1.getD ((w64 (t72_a - (1 : Int))).toNat) (0 : Int)))) (some false)
      ((R8_0 a16 a17 a19 a24 a26 a43 a44c45 N m (Sl8a n1 r2 r3 r4 (w64 (t72_a + (1 : Int))))))))
      ((R8_0 a16 a17 a19 a24 a26 a43 a44c45 N m (Sl8a n1 r2 r3 r4 (w64 (t72_a + (1 : Int)))))))))
      ((R8_1 a16 a17 a19 a24 a26 a43 a44c45 N N (Sl8b n1 r2 r4 (1 : Int)))) := by kernel_rfl
theorem ql8a (a16 : Option (Bool)) (a17 : (List Int) → Option (List Int × Int)) (a19 : (List Int) → Option (Int × Int)) (a24 : Int → Option (Int × Int)) (a26 : Int → Option (List Int × Int)) (a43 : (List Int) → Option (List Int)) (a44c45 : Int → (List Int) → Int → (List Int) → (List (Int × Bool)) → Option (Int × List Int × List (Int × Bool))) (N : Nat) (n1 : Int) (r2 : Int × List Int × List (Int × Bool)) (r3 : List Int × Int) (r4 : Int × Int) : ∀ (m : Nat) (t72_a : Int), R8_0 a16 a17 a19 a24 a26 a43 a44c45 N m (Sl8a n1 r2 r3 r4 t72_a) = l8a a16 a17 a19 a24 a26 a43 a44c45 N n1 r2 r3 r4 m t72_a
        | 0, _ => rfl
        | m + 1, t72_a => by rw [wl8a]; simp only [l8a, ql8b, ql8a a16 a17 a19 a24 a26 a43 a44c45 N n1 r2 r3 r4 m]
def m8 (a16 : Option (Bool)) (a17 : (List Int) → Option (List Int × Int)) (a19 : (List Int) → Option (Int × Int)) (a24 : Int → Option (Int × Int)) (a26 : Int → Option (List Int × Int)) (a43 : (List Int) → Option (List Int)) (a44c45 : Int → (List Int) → Int → (List Int) → (List (Int × Bool)) → Option (Int × List Int × List (Int × Bool))) (N : Nat) (by0 : List Int) (n1 : Int) : Option (Bool) :=
      (a43 by0).bind fun r1 =>
      (a44c45 (r1.length : Int) ([] : List Int) (0 : Int) r1 ([] : List (Int × Bool))).bind fun r2 =>
      (a17 r2.2.1).bind fun r3 =>
      (a19 r2.2.1).bind fun r4 =>
      cond (r3.2 != (0 : Int)) (some false)
      (cond (r4.2 != (0 : Int)) (some false)
      (cond ((r3.1.length : Int) != (r2.2.2.length : Int)) (some false)
      (cond (decide ((w64 ((2 : Int) * (r3.1.length : Int))) > (w64 (r2.1 - (1 : Int))))) (some false)
      (cond (decide (r4.1 < (0 : Int))) (some false)
      (cond (decide (r4.1 > (500 : Int))) (some false)
      ((l8a a16 a17 a19 a24 a26 a43 a44c45 N n1 r2 r3 r4 N (0 : Int))))))))
theorem wm8 (a16 : Option (Bool)) (a17 : (List Int) → Option (List Int × Int)) (a19 : (List Int) → Option (Int × Int)) (a24 : Int → Option (Int × Int)) (a26 : Int → Option (List Int × Int)) (a43 : (List Int) → Option (List Int)) (a44c45 : Int → (List Int) → Int → (List Int) → (List (Int × Bool)) → Option (Int × List Int × List (Int × Bool))) (N : Nat) (by0 : List Int) (n1 : Int) : callF (E8 a16 a17 a19 a24 a26 a43 a44c45) lv8 N en8 c8 (resOf Try.f8) 187 [.dv (.sl (.int .u8)) by0, .dv (.int .u16) n1] [] dec8 = (a43 by0).bind fun r1 =>
      (a44c45 (r1.length : Int) ([] : List Int) (0 : Int) r1 ([] : List (Int × Bool))).bind fun r2 =>
      (a17 r2.2.1).bind fun r3 =>
      (a19 r2.2.1).bind fun r4 =>
      cond (r3.2 != (0 : Int)) (some false)
      (cond (r4.2 != (0 : Int)) (some false)
      (cond ((r3.1.length : Int) != (r2.2.2.length : Int)) (some false)
      (cond (decide ((w64 ((2 : Int) * (r3.1.length : Int))) > (w64 (r2.1 - (1 : Int))))) (some false)
      (cond (decide (r4.1 < (0 : Int))) (some false)
      (cond (decide (r4.1 > (500 : Int))) (some false)
      ((R8_0 a16 a17 a19 a24 a26 a43 a44c45 N N (Sl8a n1 r2 r3 r4 (0 : Int))))))))) := by kernel_rfl
theorem k8 (a16 : Option (Bool)) (a17 : (List Int) → Option (List Int × Int)) (a19 : (List Int) → Option (Int × Int)) (a24 : Int → Option (Int × Int)) (a26 : Int → Option (List Int × Int)) (a43 : (List Int) → Option (List Int)) (a44c45 : Int → (List Int) → Int → (List Int) → (List (Int × Bool)) → Option (Int × List Int × List (Int × Bool))) (N : Nat) (by0 : List Int) (n1 : Int) : callF (E8 a16 a17 a19 a24 a26 a43 a44c45) lv8 N en8 c8 (resOf Try.f8) 187 [.dv (.sl (.int .u8)) by0, .dv (.int .u16) n1] [] dec8 = m8 a16 a17 a19 a24 a26 a43 a44c45 N by0 n1 := by rw [wm8]; simp only [m8, ql8a]
theorem ok8 (a16 : Option (Bool)) (a17 : (List Int) → Option (List Int × Int)) (a19 : (List Int) → Option (Int × Int)) (a24 : Int → Option (Int × Int)) (a26 : Int → Option (List Int × Int)) (a43 : (List Int) → Option (List Int)) (a44c45 : Int → (List Int) → Int → (List Int) → (List (Int × Bool)) → Option (Int × List Int × List (Int × Bool))) (h16 : FnOk Try.prog 16 (F16 a16)) (h17 : FnOk Try.prog 17 (F17 a17)) (h19 : FnOk Try.prog 19 (F19 a19)) (h24 : FnOk Try.prog 24 (F24 a24)) (h26 : FnOk Try.prog 26 (F26 a26)) (h43 : FnOk Try.prog 43 (F43 a43)) (h44c45 : FnOk Try.prog 44 (F44c45 a44c45)) (a : (List Int) → Int → Option (Bool)) (h : ∀ by0 n1 r, a by0 n1 = some r → (∃ N, m8 a16 a17 a19 a24 a26 a43 a44c45 N by0 n1 = some r)) : FnOk Try.prog 8 (F8 a) := by
  intro args Of x hx
  simp only [F8] at hx
  split at hx
  · rename_i by0 n1
    obtain ⟨N, hN⟩ := h _ _ _ hx
    refine lifted (L := [(16, F16 a16), (17, F17 a17), (19, F19 a19), (24, F24 a24), (26, F26 a26), (43, F43 a43), (44, F44c45 a44c45)]) (rc := (fun i => ([(5, [some (.sl (.int .i64))])] : List (Nat × List (Option DT))).lookup i)) (fz := nfz) (fn := Try.f8) (by kernel_rfl) (by kernel_rfl) (by kernel_rfl) (by kernel_rfl) rfl ?_ ((k8 a16 a17 a19 a24 a26 a43 a44c45 N _ _).trans hN) ?_
    · intro p hp; simp only [List.mem_cons, List.not_mem_nil, or_false] at hp; rcases hp with rfl | rfl | rfl | rfl | rfl | rfl | rfl
      · exact h16
      · exact h17
      · exact h19
      · exact h24
      · exact h26
      · exact h43
      · exact h44c45
    · intro l o hd
      simp only [dec8] at hd
      split at hd
      · obtain rfl := Option.some.inj hd; exact ⟨rfl, rfl⟩
      · cases hd
  · cases hx
def E47c (a46 : (List Int) → (List Int) → Option (Int × Int)) : Env := mkE TI TY [(46, F46 a46)] nrc nfz
noncomputable def c47c : Code := bodyOf Try.f47
def lv47c : Nat → Option Norm := norms []
def en47c : End := ⟨[], ⟨[], [9000, 9001, 9002, 9003], [], []⟩⟩
def dec47c (l : List TV) (o : List (Nat × TO)) : Option (List Int × Int × Int × List Int) := match l, o with | [], [(9000, .rcd [.dv (.sl (.int .i64)) x0]), (9001, .rcd [.dv (.int .i8) x1]), (9002, .rcd [.dv (.int .i64) x2]), (9003, .rcd [.dv (.sl (.int .i64)) x3])] => some (x0, x1, x2, x3) | _, _ => none
def m47c (a46 : (List Int) → (List Int) → Option (Int × Int)) (N : Nat) (l0 : List Int) (p1 : List Int) (p2 : Int) (p3 : Int) (p4 : List Int) : Option (List Int × Int × Int × List Int) :=
      (a46 p1 l0).bind fun r1 =>
      cond (r1.1 == (w64 (p2))) (cond (decide (r1.2 < p3)) (some (p1, p2, r1.2, l0))
      (some (p1, p2, p3, p4)))
      (some (p1, p2, p3, p4))
theorem k47c (a46 : (List Int) → (List Int) → Option (Int × Int)) (N : Nat) (l0 : List Int) (p1 : List Int) (p2 : Int) (p3 : Int) (p4 : List Int) : callF (E47c a46) lv47c N en47c c47c (resOf Try.f47) 20 [.dv (.sl (.int .i64)) l0, .ptr 9000 0 [0], .ptr 9001 0 [0], .ptr 9002 0 [0], .ptr 9003 0 [0]] [(9000, .rcd [.dv (.sl (.int .i64)) p1]), (9001, .rcd [.dv (.int .i8) p2]), (9002, .rcd [.dv (.int .i64) p3]), (9003, .rcd [.dv (.sl (.int .i64)) p4])] dec47c = m47c a46 N l0 p1 p2 p3 p4 := by kernel_rfl
theorem ok47c (a46 : (List Int) → (List Int) → Option (Int × Int)) (h46 : FnOk Try.prog 46 (F46 a46)) (a : (List Int) → (List Int) → Int → Int → (List Int) → Option (List Int × Int × Int × List Int)) (h : ∀ l0 p1 p2 p3 p4 r, a l0 p1 p2 p3 p4 = some r → (∃ N, m47c a46 N l0 p1 p2 p3 p4 = some r)) : FnOk Try.prog 47 (F47c a) := by
  intro args Of x hx
  simp only [F47c] at hx
  split at hx
  · rename_i l0 p1 p2 p3 p4
    obtain ⟨N, hN⟩ := h _ _ _ _ _ _ hx
    refine lifted (L := [(46, F46 a46)]) (rc := nrc) (fz := nfz) (fn := Try.f47) (by kernel_rfl) (by kernel_rfl) (by kernel_rfl) (by kernel_rfl) rfl ?_ ((k47c a46 N _ _ _ _ _).trans hN) ?_
    · intro p hp; simp only [List.mem_cons, List.not_mem_nil, or_false] at hp; rcases hp with rfl; exact h46
    · intro l o hd
      simp only [dec47c] at hd
      split at hd
      · obtain rfl := Option.some.inj hd; exact ⟨rfl, rfl⟩
      · cases hd
  · cases hx
def E44c47 (a44c47 : Int → (List Int) → (List Int) → Int → Int → (List Int) → Option (List Int × Int × Int × List Int)) (a47c : (List Int) → (List Int) → Int → Int → (List Int) → Option (List Int × Int × Int × List Int)) (a51 : (List Int) → Option (List Int)) : Env := mkE TI TY [(44, F44c47 a44c47), (47, F47c a47c), (51, F51 a51)] nrc nfz
noncomputable def c44c47 : Code := bodyOf Try.f44
def nm44c47_0 : Norm := ⟨[0, 1, 2, 14, 15, 16], [9000, 9001, 9002, 9003], [], []⟩
def lv44c47 : Nat → Option Norm := norms [(3, nm44c47_0)]
def en44c47 : End := ⟨[], ⟨[], [9000, 9001, 9002, 9003], [], []⟩⟩
def dec44c47 (l : List TV) (o : List (Nat × TO)) : Option (List Int × Int × Int × List Int) := match l, o with | [], [(9000, .rcd [.dv (.sl (.int .i64)) x0]), (9001, .rcd [.dv (.int .i8) x1]), (9002, .rcd [.dv (.int .i64) x2]), (9003, .rcd [.dv (.sl (.int .i64)) x3])] => some (x0, x1, x2, x3) | _, _ => none
noncomputable def K44c47_0 (a44c47 : Int → (List Int) → (List Int) → Int → Int → (List Int) → Option (List Int × Int × Int × List Int)) (a47c : (List Int) → (List Int) → Int → Int → (List Int) → Option (List Int × Int × Int × List Int)) (a51 : (List Int) → Option (List Int)) (N : Nat) : Kont (List Int × Int × Int × List Int) := kont (E44c47 a44c47 a47c a51) lv44c47 N c44c47 [1, 1, 0] (fin TI en44c47 (resOf Try.f44) dec44c47)
noncomputable def R44c47_0 (a44c47 : Int → (List Int) → (List Int) → Int → Int → (List Int) → Option (List Int × Int × Int × List Int)) (a47c : (List Int) → (List Int) → Int → Int → (List Int) → Option (List Int × Int × Int × List Int)) (a51 : (List Int) → Option (List Int)) (N : Nat) (m : Nat) : TS → Option (List Int × Int × Int × List Int) := loopK (den (E44c47 a44c47 a47c a51) lv44c47 N (sub c44c47 [1, 1, 0, 0])) (TS.norm nm44c47_0) (K44c47_0 a44c47 a47c a51 N) m
def Sl44c47a (n0 : Int) (l1 : List Int) (r2 : List Int) (t16_a : Int) (o9000_af0 : List Int) (o9001_af0 : Int) (o9002_af0 : Int) (o9003_af0 : List Int) : TS := ⟨slots 31 [(0, .dv (.int .i64) n0), (1, .dv (.sl (.int .i64)) l1), (2, .fn 47 0 4 fun i => ([.ptr 9000 0 [0], .ptr 9001 0 [0], .ptr 9002 0 [0], .ptr 9003 0 [0]] : List TV).getD i .any), (14, .dv (.sl (.int .i64)) r2), (15, .dv (.int .i64) (r2.length : Int)), (16, .dv (.int .i64) t16_a)], [(9000, .rcd [.dv (.sl (.int .i64)) o9000_af0]), (9001, .rcd [.dv (.int .i8) o9001_af0]), (9002, .rcd [.dv (.int .i64) o9002_af0]), (9003, .rcd [.dv (.sl (.int .i64)) o9003_af0])]⟩
def l44c47a (a44c47 : Int → (List Int) → (List Int) → Int → Int → (List Int) → Option (List Int × Int × Int × List Int)) (a47c : (List Int) → (List Int) → Int → Int → (List Int) → Option (List Int × Int × Int × List Int)) (a51 : (List Int) → Option (List Int)) (N : Nat) (n0 : Int) (l1 : List Int) (r2 : List Int) : Nat → Int → (List Int) → Int → Int → (List Int) → Option (List Int × Int × Int × List Int)
  | 0, _, _, _, _, _ => none
  | n + 1, t16_a, o9000_af0, o9001_af0, o9002_af0, o9003_af0 => cond (decide (t16_a < (r2.length : Int))) (chk (decide (0 ≤ t16_a ∧ t16_a < (r2.length : Int))) (chk (small (0 + l1.length) 8) (chk (small ((([] : List Int) ++ l1).length + 1) 8) ((a44c47 (w64 (n0 - (1 : Int))) ((([] : List Int) ++ l1) ++ ([r2.getD t16_a.toNat (0 : Int)] : List Int)) o9000_af0 o9001_af0 o9002_af0 o9003_af0).bind fun r3 =>
      (l44c47a a44c47 a47c a51 N n0 l1 r2 n (w64 (t16_a + (1 : Int))) r3.1 r3.2.1 r3.2.2.1 r3.2.2.2)))))
      (some (o9000_af0, o9001_af0, o9002_af0, o9003_af0))
theorem wl44c47a (a44c47 : Int → (List Int) → (List Int) → Int → Int → (List Int) → Option (List Int × Int × Int × List Int)) (a47c : (List Int) → (List Int) → Int → Int → (List Int) → Option (List Int × Int × Int × List Int)) (a51 : (List Int) → Option (List Int)) (N : Nat) (n0 : Int) (l1 : List Int) (r2 : List Int) (m : Nat) (t16_a : Int) (o9000_af0 : List Int) (o9001_af0 : Int) (o9002_af0 : Int) (o9003_af0 : List Int) : R44c47_0 a44c47 a47c a51 N (m + 1) (Sl44c47a n0 l1 r2 t16_a o9000_af0 o9001_af0 o9002_af0 o9003_af0) = cond (decide (t16_a < (r2.length : Int))) (chk (decide (0 ≤ t16_a ∧ t16_a < (r2.length : Int))) (chk (small (0 + l1.length) 8) (chk (small ((([] : List Int) ++ l1).length + 1) 8) ((a44c47 (w64 (n0 - (1 : Int))) ((([] : List Int) ++ l1) ++ ([r2.getD t16_a.toNat (0 : Int)] : List Int)) o9000_af0 o9001_af0 o9002_af0 o9003_af0).bind fun r3 =>
      (R44c47_0 a44c47 a47c a51 N m (Sl44c47a n0 l1 r2 (w64 (t16_a + (1 : Int))) r3.1 r3.2.1 r3.2.2.1 r3.2.2.2))))))
      (some (o9000_af0, o9001_af0, o9002_af0, o9003_af0)) := by kernel_rfl
theorem ql44c47a (a44c47 : Int → (List Int) → (List Int) → Int → Int → (List Int) → Option (List Int × Int × Int × List Int)) (a47c : (List Int) → (List Int) → Int → Int → (List Int) → Option (List Int × Int × Int × List Int)) (a51 : (List Int) → Option (List Int)) (N : Nat) (n0 : Int) (l1 : List Int) (r2 : List Int) : ∀ (m : Nat) (t16_a : Int) (o9000_af0 : List Int) (o9001_af0 : Int) (o9002_af0 : Int) (o9003_af0 : List Int), R44c47_0 a44c47 a47c a51 N m (Sl44c47a n0 l1 r2 t16_a o9000_af0 o9001_af0 o9002_af0 o9003_af0) = l44c47a a44c47 a47c a51 N n0 l1 r2 m t16_a o9000_af0 o9001_af0 o9002_af0 o9003_af0
        | 0, _, _, _, _, _ => rfl
        | m + 1, t16_a, o9000_af0, o9001_af0, o9002_af0, o9003_af0 => by rw [wl44c47a]; simp only [l44c47a, ql44c47a a44c47 a47c a51 N n0 l1 r2 m]
def m44c47 (a44c47 : Int → (List Int) → (List Int) → Int → Int → (List Int) → Option (List Int × Int × Int × List Int)) (a47c : (List Int) → (List Int) → Int → Int → (List Int) → Option (List Int × Int × Int × List Int)) (a51 : (List Int) → Option (List Int)) (N : Nat) (n0 : Int) (l1 : List Int) (p2 : List Int) (p3 : Int) (p4 : Int) (p5 : List Int) : Option (List Int × Int × Int × List Int) :=
      cond (n0 == (0 : Int)) ((a47c l1 p2 p3 p4 p5).bind fun r1 =>
      some (r1.1, r1.2.1, r1.2.2.1, r1.2.2.2))
      ((a51 ([(1 : Int), (0 : Int), (-1 : Int)] : List Int)).bind fun r2 =>
      (l44c47a a44c47 a47c a51 N n0 l1 r2 N (0 : Int) p2 p3 p4 p5))
theorem wm44c47 (a44c47 : Int → (List Int) → (List Int) → Int → Int → (List Int) → Option (List Int × Int × Int × List Int)) (a47c : (List Int) → (List Int) → Int → Int → (List Int) → Option (List Int × Int × Int × List Int)) (a51 : (List Int) → Option (List Int)) (N : Nat) (n0 : Int) (l1 : List Int) (p2 : List Int) (p3 : Int) (p4 : Int) (p5 : List Int) : callF (E44c47 a44c47 a47c a51) lv44c47 N en44c47 c44c47 (resOf Try.f44) 28 [.dv (.int .i64) n0, .dv (.sl (.int .i64)) l1, .fn 47 0 4 fun i => ([.ptr 9000 0 [0], .ptr 9001 0 [0], .ptr 9002 0 [0], .ptr 9003 0 [0]] : List TV).getD i .any] [(9000, .rcd [.dv (.sl (.int .i64)) p2]), (9001, .rcd [.dv (.int .i8) p3]), (9002, .rcd [.dv (.int .i64) p4]), (9003, .rcd [.dv (.sl (.int .i64)) p5])] dec44c47 = cond (n0 == (0 : Int)) ((a47c l1 p2 p3 p4 p5).bind fun r1 =>
      some (r1.1, r1.2.1, r1.2.2.1, r1.2.2.2))
      ((a51 ([(1 : Int), (0 : Int), (-1 : Int)] : List Int)).bind fun r2 =>
      (R44c47_0 a44c47 a47c a51 N N (Sl44c47a n0 l1 r2 (0 : Int) p2 p3 p4 p5))) := by kernel_rfl
theorem k44c47 (a44c47 : Int → (List Int) → (List Int) → Int → Int → (List Int) → Option (List Int × Int × Int × List Int)) (a47c : (List Int) → (List Int) → Int → Int → (List Int) → Option (List Int × Int × Int × List Int)) (a51 : (List Int) → Option (List Int)) (N : Nat) (n0 : Int) (l1 : List Int) (p2 : List Int) (p3 : Int) (p4 : Int) (p5 : List Int) : callF (E44c47 a44c47 a47c a51) lv44c47 N en44c47 c44c47 (resOf Try.f44) 28 [.dv (.int .i64) n0, .dv (.sl (.int .i64)) l1, .fn 47 0 4 fun i => ([.ptr 9000 0 [0], .ptr 9001 0 [0], .ptr 9002 0 [0], .ptr 9003 0 [0]] : List TV).getD i .any] [(9000, .rcd [.dv (.sl (.int .i64)) p2]), (9001, .rcd [.dv (.int .i8) p3]), (9002, .rcd [.dv (.int .i64) p4]), (9003, .rcd [.dv (.sl (.int .i64)) p5])] dec44c47 = m44c47 a44c47 a47c a51 N n0 l1 p2 p3 p4 p5 := by rw [wm44c47]; simp only [m44c47, ql44c47a]
theorem ok44c47 (a44c47 : Int → (List Int) → (List Int) → Int → Int → (List Int) → Option (List Int × Int × Int × List Int)) (a47c : (List Int) → (List Int) → Int → Int → (List Int) → Option (List Int × Int × Int × List Int)) (a51 : (List Int) → Option (List Int)) (h44c47 : FnOk Try.prog 44 (F44c47 a44c47)) (h47c : FnOk Try.prog 47 (F47c a47c)) (h51 : FnOk Try.prog 51 (F51 a51)) (a : Int → (List Int) → (List Int) → Int → Int → (List Int) → Option (List Int × Int × Int × List Int)) (h : ∀ n0 l1 p2 p3 p4 p5 r, a n0 l1 p2 p3 p4 p5 = some r → (∃ N, m44c47 a44c47 a47c a51 N n0 l1 p2 p3 p4 p5 = some r)) : FnOk Try.prog 44 (F44c47 a) := by
  intro args Of x hx
  simp only [F44c47] at hx
  split at hx
  · rename_i n0 l1 f_0 p2 p3 p4 p5 heqc
    have hc0 := congrArg (fun c : List (List TV) => c.getD 0 []) heqc
    obtain ⟨N, hN⟩ := h _ _ _ _ _ _ _ hx
    refine HSpec.etaL (args := [.dv (.int .i64) n0, .dv (.sl (.int .i64)) l1, .fn 47 0 4 fun i => ([.ptr 9000 0 [0], .ptr 9001 0 [0], .ptr 9002 0 [0], .ptr 9003 0 [0]] : List TV).getD i .any]) (O := [(9000, .rcd [.dv (.sl (.int .i64)) p2]), (9001, .rcd [.dv (.int .i8) p3]), (9002, .rcd [.dv (.int .i64) p4]), (9003, .rcd [.dv (.sl (.int .i64)) p5])]) ⟨TV.sim_refl _, TV.sim_refl _, TV.sim_fn hc0, trivial⟩ ⟨rfl, TO.sim_refl _, rfl, TO.sim_refl _, rfl, TO.sim_refl _, rfl, TO.sim_refl _, trivial⟩ (lifted (L := [(44, F44c47 a44c47), (47, F47c a47c), (51, F51 a51)]) (rc := nrc) (fz := nfz) (fn := Try.f44) (by kernel_rfl) (by kernel_rfl) (by kernel_rfl) (by kernel_rfl) rfl ?_ ((k44c47 a44c47 a47c a51 N _ _ _ _ _ _).trans hN) ?_)
    · intro p hp; simp only [List.mem_cons, List.not_mem_nil, or_false] at hp; rcases hp with rfl | rfl | rfl
      · exact h44c47
      · exact h47c
      · exact h51
    · intro l o hd
      simp only [dec44c47] at hd
      split at hd
      · obtain rfl := Option.some.inj hd; exact ⟨rfl, rfl⟩
      · cases hd
  · cases hx
def E9 (a16 : Option (Bool)) (a21 : (List Int) → (List Int) → Option (Bool)) (a27 : (List Int) → Int → Option (List Int × Int)) (a29 : (List Int) → (List Int) → Int → Option (Int)) (a43 : (List Int) → Option (List Int)) (a44c47 : Int → (List Int) → (List Int) → Int → Int → (List Int) → Option (List Int × Int × Int × List Int)) : Env := mkE TI TY [(16, F16 a16), (21, F21 a21), (27, F27 a27), (29, F29 a29), (43, F43 a43), (44, F44c47 a44c47)] (fun i => ([(5, [some (.sl (.int .i64))]), (6, [some (.sl (.int .i64))])] : List (Nat × List (Option DT))).lookup i) nfz
noncomputable def c9 : Code := bodyOf Try.f9
def lv9 : Nat → Option Norm := norms []
def en9 : End := ⟨[], ⟨[62], [], [], []⟩⟩
def dec9 (l : List TV) (o : List (Nat × TO)) : Option (Bool) := match l, o with | [.dv (.bool) x0], [] => some (x0) | _, _ => none
def m9 (a16 : Option (Bool)) (a21 : (List Int) → (List Int) → Option (Bool)) (a27 : (List Int) → Int → Option (List Int × Int)) (a29 : (List Int) → (List Int) → Int → Option (Int)) (a43 : (List Int) → Option (List Int)) (a44c47 : Int → (List Int) → (List Int) → Int → Int → (List Int) → Option (List Int × Int × Int × List Int)) (N : Nat) (by0 : List Int) (n1 : Int) : Option (Bool) :=
      (a43 by0).bind fun r1 =>
      (a44c47 (r1.length : Int) ([] : List Int) r1 n1 (99 : Int) ([] : List Int)).bind fun r2 =>
      (a27 r2.1 (w64 (r2.2.1))).bind fun r3 =>
      cond (r2.2.2.1 == (99 : Int)) (cond (r3.2 == (14 : Int)) (cond ((r3.1.length : Int) == (0 : Int)) ((a16).bind fun r4 =>
      some r4)
      (some false))
      (some false))
      (cond (r3.2 == (0 : Int)) ((a21 r3.1 r2.2.2.2).bind fun r5 =>
      cond (r5) ((a29 r2.1 r3.1 (w64 (r2.2.1))).bind fun r6 =>
      cond (r6 == (0 : Int)) ((a29 r2.1 r3.1 (w64 ((w64 (r2.2.1)) + (1 : Int)))).bind fun r7 =>
      cond (r7 == (13 : Int)) ((a16).bind fun r8 =>
      some r8)
      (some false))
      (some false))
      (some false))
      (some false))
theorem k9 (a16 : Option (Bool)) (a21 : (List Int) → (List Int) → Option (Bool)) (a27 : (List Int) → Int → Option (List Int × Int)) (a29 : (List Int) → (List Int) → Int → Option (Int)) (a43 : (List Int) → Option (List Int)) (a44c47 : Int → (List Int) → (List Int) → Int → Int → (List Int) → Option (List Int × Int × Int × List Int)) (N : Nat) (by0 : List Int) (n1 : Int) : callF (E9 a16 a21 a27 a29 a43 a44c47) lv9 N en9 c9 (resOf Try.f9) 60 [.dv (.sl (.int .u8)) by0, .dv (.int .i8) n1] [] dec9 = m9 a16 a21 a27 a29 a43 a44c47 N by0 n1 := by kernel_rfl
theorem ok9 (a16 : Option (Bool)) (a21 : (List Int) → (List Int) → Option (Bool)) (a27 : (List Int) → Int → Option (List Int × Int)) (a29 : (List Int) → (List Int) → Int → Option (Int)) (a43 : (List Int) → Option (List Int)) (a44c47 : Int → (List Int) → (List Int) → Int → Int → (List Int) → Option (List Int × Int × Int × List Int)) (h16 : FnOk Try.prog 16 (F16 a16)) (h21 : FnOk Try.prog 21 (F21 a21)) (h27 : FnOk Try.prog 27 (F27 a27)) (h29 : FnOk Try.prog 29 (F29 a29)) (h43 : FnOk Try.prog 43 (F43 a43)) (h44c47 : FnOk Try.prog 44 (F44c47 a44c47)) (a : (List Int) → Int → Option (Bool)) (h : ∀ by0 n1 r, a by0 n1 = some r → (∃ N, m9 a16 a21 a27 a29 a43 a44c47 N by0 n1 = some r)) : FnOk Try.prog 9 (F9 a) := by
  intro args Of x hx
  simp only [F9] at hx
  split at hx
  · rename_i by0 n1
    obtain ⟨N, hN⟩ := h _ _ _ hx
    refine lifted (L := [(16, F16 a16), (21, F21 a21), (27, F27 a27), (29, F29 a29), (43, F43 a43), (44, F44c47 a44c47)]) (rc := (fun i => ([(5, [some (.sl (.int .i64))]), (6, [some (.sl (.int .i64))])] : List (Nat × List (Option DT))).lookup i)) (fz := nfz) (fn := Try.f9) (by kernel_rfl) (by kernel_rfl) (by kernel_rfl) (by kernel_rfl) rfl ?_ ((k9 a16 a21 a27 a29 a43 a44c47 N _ _).trans hN) ?_
    · intro p hp; simp only [List.mem_cons, List.not_mem_nil, or_false] at hp; rcases hp with rfl | rfl | rfl | rfl | rfl | rfl
      · exact h16
      · exact h21
      · exact h27
      · exact h29
      · exact h43
      · exact h44c47
    · intro l o hd
      simp only [dec9] at hd
      split at hd
      · obtain rfl := Option.some.inj hd; exact ⟨rfl, rfl⟩
      · cases hd
  · cases hx
def E10 (a16 : Option (Bool)) (a17 : (List Int) → Option (List Int × Int)) (a19 : (List Int) → Option (Int × Int)) (a43 : (List Int) → Option (List Int)) : Env := mkE TI TY [(16, F16 a16), (17, F17 a17), (19, F19 a19), (43, F43 a43)] nrc nfz
noncomputable def c10 : Code := bodyOf Try.f10
def nm10_0 : Norm := ⟨[1, 7, 8, 9, 10, 35, 36, 37], [], [(.slot 11, 1011, .int .i64)], []⟩
def nm10_1 : Norm := ⟨[7, 8, 9, 11, 14, 15, 55, 56, 57], [1011], [(.slot 10, 1010, .int .i64)], []⟩
def nm10_2 : Norm := ⟨[9, 20, 22, 26, 145, 146, 147], [], [], []⟩
def nm10_3 : Norm := ⟨[9, 20, 22, 26, 27, 28, 145, 146, 147], [], [], []⟩
def lv10 : Nat → Option Norm := norms [(5, nm10_0), (13, nm10_1), (29, nm10_2), (31, nm10_3)]
def en10 : End := ⟨[], ⟨[190], [], [], []⟩⟩
def dec10 (l : List TV) (o : List (Nat × TO)) : Option (Bool) := match l, o with | [.dv (.bool) x0], [] => some (x0) | _, _ => none
noncomputable def K10_0 (a16 : Option (Bool)) (a17 : (List Int) → Option (List Int × Int)) (a19 : (List Int) → Option (Int × Int)) (a43 : (List Int) → Option (List Int)) (N : Nat) : Kont (Bool) := kont (E10 a16 a17 a19 a43) lv10 N c10 [1, 1, 1, 1, 0, 1, 0] (fin TI en10 (resOf Try.f10) dec10)
noncomputable def R10_0 (a16 : Option (Bool)) (a17 : (List Int) → Option (List Int × Int)) (a19 : (List Int) → Option (Int × Int)) (a43 : (List Int) → Option (List Int)) (N : Nat) (m : Nat) : TS → Option (Bool) := loopK (den (E10 a16 a17 a19 a43) lv10 N (sub c10 [1, 1, 1, 1, 0, 1, 0, 0])) (TS.norm nm10_0) (K10_0 a16 a17 a19 a43 N) m
noncomputable def K10_1 (a16 : Option (Bool)) (a17 : (List Int) → Option (List Int × Int)) (a19 : (List Int) → Option (Int × Int)) (a43 : (List Int) → Option (List Int)) (N : Nat) : Kont (Bool) := kont (E10 a16 a17 a19 a43) lv10 N c10 [1, 1, 1, 1, 1, 1, 1, 0, 1, 0] (fin TI en10 (resOf Try.f10) dec10)
noncomputable def R10_1 (a16 : Option (Bool)) (a17 : (List Int) → Option (List Int × Int)) (a19 : (List Int) → Option (Int × Int)) (a43 : (List Int) → Option (List Int)) (N : Nat) (m : Nat) : TS → Option (Bool) := loopK (den (E10 a16 a17 a19 a43) lv10 N (sub c10 [1, 1, 1, 1, 1, 1, 1, 0, 1, 0, 0])) (TS.norm nm10_1) (K10_1 a16 a17 a19 a43 N) m
noncomputable def K10_2 (a16 : Option (Bool)) (a17 : (List Int) → Option (List Int × Int)) (a19 : (List Int) → Option (Int × Int)) (a43 : (List Int) → Option (List Int)) (N : Nat) : Kont (Bool) := kont (E10 a16 a17 a19 a43) lv10 N c10 [1, 1, 1, 1, 1, 1, 1, 1, 1, 1, 1, 1, 1, 1, 1, 0, 1, 0] (fin TI en10 (resOf Try.f10) dec10)
noncomputable def R10_2 (a16 : Option (Bool)) (a17 : (List Int) → Option (List Int × Int)) (a19 : (List Int) → Option (Int × Int)) (a43 : (List Int) → Option (List Int)) (N : Nat) (m : Nat) : TS → Option (Bool) := loopK (den (E10 a16 a17 a19 a43) lv10 N (sub c10 [1, 1, 1, 1, 1, 1, 1, 1, 1, 1, 1, 1, 1, 1, 1, 0, 1, 0, 0])) (TS.norm nm10_2) (K10_2 a16 a17 a19 a43 N) m
noncomputable def K10_3 (a16 : Option (Bool)) (a17 : (List Int) → Option (List Int × Int)) (a19 : (List Int) → Option (Int × Int)) (a43 : (List Int) → Option (List Int)) (N : Nat) (T10_2 : TS → Option (Bool)) : Kont (Bool) := kont (E10 a16 a17 a19 a43) lv10 N (sub c10 [1, 1, 1, 1, 1, 1, 1, 1, 1, 1, 1, 1, 1, 1, 1, 0, 1, 0, 0]) [1, 1, 0, 0, 1, 0, 0] (kloop (TS.norm nm10_2) (K10_2 a16 a17 a19 a43 N) T10_2)
noncomputable def R10_3 (a16 : Option (Bool)) (a17 : (List Int) → Option (List Int × Int)) (a19 : (List Int) → Option (Int × Int)) (a43 : (List Int) → Option (List Int)) (N : Nat) (T10_2 : TS → Option (Bool)) (m : Nat) : TS → Option (Bool) := loopK (den (E10 a16 a17 a19 a43) lv10 N (sub c10 [1, 1, 1, 1, 1, 1, 1, 1, 1, 1, 1, 1, 1, 1, 1, 0, 1, 0, 0, 1, 1, 0, 0, 1, 0, 0, 0])) (TS.norm nm10_3) (K10_3 a16 a17 a19 a43 N T10_2) m
def Sl10d (times2 : Int) (b20_c : List Int) (c22_c : List Int) (t145_c : List Int) (t146_c : Int) (t147_c : Int) (at26_d : Int) : TS := ⟨slots 190 [(9, .dv (.int .i64) (w64 ((1 : Int) + (Int.tmod (w64 (times2)) (9 : Int))))), (20, .dv (.sl (.int .i64)) b20_c), (22, .dv (.sl (.int .i64)) c22_c), (26, .dv (.int .i64) at26_d), (27, .dv (.int .i64) t147_c), (28, .dv (.int .i64) (t145_c.getD t147_c.toNat (0 : Int))), (145, .dv (.sl (.int .i64)) t145_c), (146, .dv (.int .i64) t146_c), (147, .dv (.int .i64) t147_c)], []⟩
def Sl10c (times2 : Int) (b20_c : List Int) (c22_c : List Int) (at26_c : Int) (t145_c : List Int) (t146_c : Int) (t147_c : Int) : TS := ⟨slots 190 [(9, .dv (.int .i64) (w64 ((1 : Int) + (Int.tmod (w64 (times2)) (9 : Int))))), (20, .dv (.sl (.int .i64)) b20_c), (22, .dv (.sl (.int .i64)) c22_c), (26, .dv (.int .i64) at26_c), (145, .dv (.sl (.int .i64)) t145_c), (146, .dv (.int .i64) t146_c), (147, .dv (.int .i64) t147_c)], []⟩
def Sl10b (more1 : Int) (times2 : Int) (r1 : List Int) (sum8_a : Int) (long11_a : List Int) (put15_b : Bool) (t57_b : Int) (plus10_b : List Int) : TS := ⟨slots 190 [(7, .dv (.sl (.int .i64)) r1), (8, .dv (.int .i64) sum8_a), (9, .dv (.int .i64) (w64 ((1 : Int) + (Int.tmod (w64 (times2)) (9 : Int))))), (10, .row 1010), (11, .row 1011), (14, .dv (.int .i64) (w64 ((1 : Int) + (Int.tmod (w64 (more1)) (60 : Int))))), (15, .dv (.bool) put15_b), (55, .dv (.sl (.int .i64)) r1), (56, .dv (.int .i64) (r1.length : Int)), (57, .dv (.int .i64) t57_b)], [(1010, .row (.int .i64) plus10_b), (1011, .row (.int .i64) long11_a)]⟩
def Sl10a (more1 : Int) (times2 : Int) (r1 : List Int) (sum8_a : Int) (t37_a : Int) (long11_a : List Int) : TS := ⟨slots 190 [(1, .dv (.int .u8) more1), (7, .dv (.sl (.int .i64)) r1), (8, .dv (.int .i64) sum8_a), (9, .dv (.int .i64) (w64 ((1 : Int) + (Int.tmod (w64 (times2)) (9 : Int))))), (10, .nl), (11, .row 1011), (35, .dv (.sl (.int .i64)) r1), (36, .dv (.int .i64) (r1.length : Int)), (37, .dv (.int .i64) t37_a)], [(1011, .row (.int .i64) long11_a)]⟩
def l10d (a16 : Option (Bool)) (a17 : (List Int) → Option (List Int × Int)) (a19 : (List Int) → Option (Int × Int)) (a43 : (List Int) → Option (List Int)) (N : Nat) (times2 : Int) (b20_c : List Int) (c22_c : List Int) (t145_c : List Int) (t146_c : Int) (t147_c : Int) (rec_l10c : (List Int) → (List Int) → Int → (List Int) → Int → Int → Option (Bool)) : Nat → Int → Option (Bool)
  | 0, _ => none
  | n + 1, at26_d => cond (decide (at26_d < (b20_c.length : Int))) (chk (decide (0 ≤ at26_d ∧ at26_d < (b20_c.length : Int))) (cond (decide ((b20_c.getD at26_d.toNat (0 : Int)) < (t145_c.getD t147_c.toNat (0 : Int)))) ((l10d a16 a17 a19 a43 N times2 b20_c c22_c t145_c t146_c t147_c rec_l10c n (w64 (at26_d + (1 : Int)))))
      (cond (at26_d == (b20_c.length : Int)) (some false)
      (chk (decide (0 ≤ at26_d ∧ at26_d < (b20_c.length : Int))) (cond ((b20_c.getD at26_d.toNat (0 : Int)) != (t145_c.getD t147_c.toNat (0 : Int))) (some false)
      (chk (decide (0 ≤ t147_c ∧ t147_c < (c22_c.length : Int))) (cond ((c22_c.getD t147_c.toNat (0 : Int)) != (w64 ((w64 ((1 : Int) + (Int.tmod (w64 (times2)) (9 : Int)))) * (t145_c.getD t147_c.toNat (0 : Int))))) (some false)
      ((rec_l10c b20_c c22_c at26_d t145_c t146_c (w64 (t147_c + (1 : Int))))))))))))
      (cond (at26_d == (b20_c.length : Int)) (some false)
      (chk (decide (0 ≤ at26_d ∧ at26_d < (b20_c.length : Int))) (cond ((b20_c.getD at26_d.toNat (0 : Int)) != (t145_c.getD t147_c.toNat (0 : Int))) (some false)
      (chk (decide (0 ≤ t147_c ∧ t147_c < (c22_c.length : Int))) (cond ((c22_c.getD t147_c.toNat (0 : Int)) != (w64 ((w64 ((1 : Int) + (Int.tmod (w64 (times2)) (9 : Int)))) * (t145_c.getD t147_c.toNat (0 : Int))))) (some false)
      ((rec_l10c b20_c c22_c at26_d t145_c t146_c (w64 (t147_c + (1 : Int))))))))))
theorem wl10d (a16 : Option (Bool)) (a17 : (List Int) → Option (List Int × Int)) (a19 : (List Int) → Option (Int × Int)) (a43 : (List Int) → Option (List Int)) (N : Nat) (times2 : Int) (b20_c : List Int) (c22_c : List Int) (t145_c : List Int) (t146_c : Int) (t147_c : Int) (T10_2 : TS → Option (Bool)) (m : Nat) (at26_d : Int) : R10_3 a16 a17 a19 a43 N T10_2 (m + 1) (Sl10d times2 b20_c c22_c t145_c t146_c t147_c at26_d) = cond (decide (at26_d < (b20_c.length : Int))) (chk (decide (0 ≤ at26_d ∧ at26_d < (b20_c.length : Int))) (cond (decide ((b20_c.getD at26_d.toNat (0 : Int)) < (t145_c.getD t147_c.toNat (0 : Int)))) ((R10_3 a16 a17 a19 a43 N T10_2 m (Sl10d times2 b20_c c22_c t145_c t146_c t147_c (w64 (at26_d + (1 : Int))))))
      (cond (at26_d == (b20_c.length : Int)) (some false)
      (chk (decide (0 ≤ at26_d ∧ at26_d < (b20_c.length : Int))) (cond ((b20_c.getD at26_d.toNat (0 : Int)) != (t145_c.getD t147_c.toNat (0 : Int))) (some false)
      (chk (decide (0 ≤ t147_c ∧ t147_c < (c22_c.length : Int))) (cond ((c22_c.getD t147_c.toNat (0 : Int)) != (w64 ((w64 ((1 : Int) + (Int.tmod (w64 (times2)) (9 : Int)))) * (t145_c.getD t147_c.toNat (0 : Int))))) (some false)
      ((T10_2 (Sl10c times2 b20_c c22_c at26_d t145_c t146_c (w64 (t147_c + (1 : Int)))))))))))))
      (cond (at26_d == (b20_c.length : Int)) (some false)
      (chk (decide (0 ≤ at26_d ∧ at26_d < (b20_c.length : Int))) (cond ((b20_c.getD at26_d.toNat (0 : Int)) != (t145_c.getD t147_c.toNat (0 : Int))) (some false)
      (chk (decide (0 ≤ t147_c ∧ t147_c < (c22_c.length : Int))) (cond ((c22_c.getD t147_c.toNat (0 : Int)) != (w64 ((w64 ((1 : Int) + (Int.tmod (w64 (times2)) (9 : Int)))) * (t145_c.getD t147_c.toNat (0 : Int))))) (some false)
      ((T10_2 (Sl10c times2 b20_c c22_c at26_d t145_c t146_c (w64 (t147_c + (1 : Int))))))))))) := by kernel_rfl
theorem ql10d (a16 : Option (Bool)) (a17 : (List Int) → Option (List Int × Int)) (a19 : (List Int) → Option (Int × Int)) (a43 : (List Int) → Option (List Int)) (N : Nat) (times2 : Int) (b20_c : List Int) (c22_c : List Int) (t145_c : List Int) (t146_c : Int) (t147_c : Int) (T10_2 : TS → Option (Bool)) : ∀ (m : Nat) (at26_d : Int), R10_3 a16 a17 a19 a43 N T10_2 m (Sl10d times2 b20_c c22_c t145_c t146_c t147_c at26_d) = l10d a16 a17 a19 a43 N times2 b20_c c22_c t145_c t146_c t147_c (fun y0 y1 y2 y3 y4 y5 => T10_2 (Sl10c times2 y0 y1 y2 y3 y4 y5)) m at26_d
        | 0, _ => rfl
        | m + 1, at26_d => by rw [wl10d]; simp only [l10d, ql10d a16 a17 a19 a43 N times2 b20_c c22_c t145_c t146_c t147_c T10_2 m]
def l10c (a16 : Option (Bool)) (a17 : (List Int) → Option (List Int × Int)) (a19 : (List Int) → Option (Int × Int)) (a43 : (List Int) → Option (List Int)) (N : Nat) (times2 : Int) : Nat → (List Int) → (List Int) → Int → (List Int) → Int → Int → Option (Bool)
  | 0, _, _, _, _, _, _ => none
  | n + 1, b20_c, c22_c, at26_c, t145_c, t146_c, t147_c => cond (decide (t147_c < t146_c)) (chk (decide (0 ≤ t147_c ∧ t147_c < (t145_c.length : Int))) ((l10d a16 a17 a19 a43 N times2 b20_c c22_c t145_c t146_c t147_c (fun y0 y1 y2 y3 y4 y5 => (l10c a16 a17 a19 a43 N times2 n y0 y1 y2 y3 y4 y5)) N at26_c)))
      ((a16).bind fun r6 =>
      some r6)
theorem wl10c (a16 : Option (Bool)) (a17 : (List Int) → Option (List Int × Int)) (a19 : (List Int) → Option (Int × Int)) (a43 : (List Int) → Option (List Int)) (N : Nat) (times2 : Int) (m : Nat) (b20_c : List Int) (c22_c : List Int) (at26_c : Int) (t145_c : List Int) (t146_c : Int) (t147_c : Int) : R10_2 a16 a17 a19 a43 N (m + 1) (Sl10c times2 b20_c c22_c at26_c t145_c t146_c t147_c) = cond (decide (t147_c < t146_c)) (chk (decide (0 ≤ t147_c ∧ t147_c < (t145_c.length : Int))) ((R10_3 a16 a17 a19 a43 N (R10_2 a16 a17 a19 a43 N m) N (Sl10d times2 b20_c c22_c t145_c t146_c t147_c at26_c))))
      ((a16).bind fun r6 =>
      some r6) := by kernel_rfl
theorem ql10c (a16 : Option (Bool)) (a17 : (List Int) → Option (List Int × Int)) (a19 : (List Int) → Option (Int × Int)) (a43 : (List Int) → Option (List Int)) (N : Nat) (times2 : Int) : ∀ (m : Nat) (b20_c : List Int) (c22_c : List Int) (at26_c : Int) (t145_c : List Int) (t146_c : Int) (t147_c : Int), R10_2 a16 a17 a19 a43 N m (Sl10c times2 b20_c c22_c at26_c t145_c t146_c t147_c) = l10c a16 a17 a19 a43 N times2 m b20_c c22_c at26_c t145_c t146_c t147_c
        | 0, _, _, _, _, _, _ => rfl
        | m + 1, b20_c, c22_c, at26_c, t145_c, t146_c, t147_c => by rw [wl10c]; simp only [l10c, ql10d, ql10c a16 a17 a19 a43 N times2 m]
def l10b (a16 : Option (Bool)) (a17 : (List Int) → Option (List Int × Int)) (a19 : (List Int) → Option (Int × Int)) (a43 : (List Int) → Option (List Int)) (N : Nat) (more1 : Int) (times2 : Int) (r1 : List Int) (sum8_a : Int) (long11_a : List Int) : Nat → Bool → Int → (List Int) → Option (Bool)
  | 0, _, _, _ => none
  | n + 1, put15_b, t57_b, plus10_b => cond (decide (t57_b < (r1.length : Int))) (chk (decide (0 ≤ t57_b ∧ t57_b < (r1.length : Int))) (cond (decide ((w64 ((1 : Int) + (Int.tmod (w64 (more1)) (60 : Int)))) < (r1.getD t57_b.toNat (0 : Int)))) (cond (!put15_b) (chk (small (plus10_b.length + 1) 8) (chk (small ((plus10_b ++ ([w64 ((1 : Int) + (Int.tmod (w64 (more1)) (60 : Int)))] : List Int)).length + 1) 8) ((l10b a16 a17 a19 a43 N more1 times2 r1 sum8_a long11_a n true (w64 (t57_b + (1 : Int))) ((plus10_b ++ ([w64 ((1 : Int) + (Int.tmod (w64 (more1)) (60 : Int)))] : List Int)) ++ ([r1.getD t57_b.toNat (0 : Int)] : List Int))))))
      (chk (small (plus10_b.length + 1) 8) ((l10b a16 a17 a19 a43 N more1 times2 r1 sum8_a long11_a n put15_b (w64 (t57_b + (1 : Int))) (plus10_b ++ ([r1.getD t57_b.toNat (0 : Int)] : List Int))))))
      (chk (small (plus10_b.length + 1) 8) ((l10b a16 a17 a19 a43 N more1 times2 r1 sum8_a long11_a n put15_b (w64 (t57_b + (1 : Int))) (plus10_b ++ ([r1.getD t57_b.toNat (0 : Int)] : List Int)))))))
      (cond (!put15_b) (chk (small (plus10_b.length + 1) 8) ((a17 r1).bind fun r2 =>
      (a17 (plus10_b ++ ([w64 ((1 : Int) + (Int.tmod (w64 (more1)) (60 : Int)))] : List Int))).bind fun r3 =>
      (a17 long11_a).bind fun r4 =>
      (a19 r1).bind fun r5 =>
      cond (r2.2 != (0 : Int)) (some false)
      (cond (r3.2 != (0 : Int)) (some false)
      (cond (r4.2 != (0 : Int)) (some false)
      (cond (r5.2 != (0 : Int)) (some false)
      (cond ((r2.1.length : Int) == (0 : Int)) (some false)
      (chk (decide (0 ≤ w64 ((r2.1.length : Int) - (1 : Int)) ∧ w64 ((r2.1.length : Int) - (1 : Int)) < (r2.1.length : Int))) (cond ((r2.1.getD ((w64 ((r2.1.length : Int) - (1 : Int))).toNat) (0 : Int)) != sum8_a) (some false)
      (cond ((r4.1.length : Int) != (r2.1.length : Int)) (some false)
      (cond (decide (r5.1 > (r2.1.length : Int))) (some false)
      ((l10c a16 a17 a19 a43 N times2 N r3.1 r4.1 (0 : Int) r2.1 (r2.1.length : Int) (0 : Int)))))))))))))
      ((a17 r1).bind fun r7 =>
      (a17 plus10_b).bind fun r8 =>
      (a17 long11_a).bind fun r9 =>
      (a19 r1).bind fun r10 =>
      cond (r7.2 != (0 : Int)) (some false)
      (cond (r8.2 != (0 : Int)) (some false)
      (cond (r9.2 != (0 : Int)) (some false)
      (cond (r10.2 != (0 : Int)) (some false)
      (cond ((r7.1.length : Int) == (0 : Int)) (some false)
      (chk (decide (0 ≤ w64 ((r7.1.length : Int) - (1 : Int)) ∧ w64 ((r7.1.length : Int) - (1 : Int)) < (r7.1.length : Int))) (cond ((r7.1.getD ((w64 ((r7.1.length : Int) - (1 : Int))).toNat) (0 : Int)) != sum8_a) (some false)
      (cond ((r9.1.length : Int) != (r7.1.length : Int)) (some false)
      (cond (decide (r10.1 > (r7.1.length : Int))) (some false)
      ((l10c a16 a17 a19 a43 N times2 N r8.1 r9.1 (0 : Int) r7.1 (r7.1.length : Int) (0 : Int)))))))))))))
theorem wl10b (a16 : Option (Bool)) (a17 : (List Int) → Option (List Int × Int)) (a19 : (List Int) → Option (Int × Int)) (a43 : (List Int) → Option (List Int)) (N : Nat) (more1 : Int) (times2 : Int) (r1 : List Int) (sum8_a : Int) (long11_a : List Int) (m : Nat) (put15_b : Bool) (t57_b : Int) (plus10_b : List Int) : R10_1 a16 a17 a19 a43 N (m + 1) (Sl10b more1 times2 r1 sum8_a long11_a put15_b t57_b plus10_b) = cond (decide (t57_b < (r1.length : Int))) (chk (decide (0 ≤ t57_b ∧ t57_b < (r1.length : Int))) (cond (decide ((w64 ((1 : Int) + (Int.tmod (w64 (more1)) (60 : Int)))) < (r1.getD t57_b.toNat (0 : Int)))) (cond (!put15_b) (chk (small (plus10_b.length + 1) 8) (chk (small ((plus10_b ++ ([w64 ((1 : Int) + (Int.tmod (w64 (more1)) (60 : Int)))] : List Int)).length + 1) 8) ((R10_1 a16 a17 a19 a43 N m (Sl10b more1 times2 r1 sum8_a long11_a true (w64 (t57_b + (1 : Int))) ((plus10_b ++ ([w64 ((1 : Int) + (Int.tmod (w64 (more1)) (60 : Int)))] : List Int)) ++ ([r1.getD t57_b.toNat (0 : Int)] : List Int)))))))
      (chk (small (plus10_b.length + 1) 8) ((R10_1 a16 a17 a19 a43 N m (Sl10b more1 times2 r1 sum8_a long11_a put15_b (w64 (t57_b + (1 : Int))) (plus10_b ++ ([r1.getD t57_b.toNat (0 : Int)] : List Int)))))))
      (chk (small (plus10_b.length + 1) 8) ((R10_1 a16 a17 a19 a43 N m (Sl10b more1 times2 r1 sum8_a long11_a put15_b (w64 (t57_b + (1 : Int))) (plus10_b ++ ([r1.getD t57_b.toNat (0 : Int)] : List Int))))))))
      (cond (!put15_b) (chk (small (plus10_b.length + 1) 8) ((a17 r1).bind fun r2 =>
      (a17 (plus10_b ++ ([w64 ((1 : Int) + (Int.tmod (w64 (more1)) (60 : Int)))] : List Int))).bind fun r3 =>
      (a17 long11_a).bind fun r4 =>
      (a19 r1).bind fun r5 =>
      cond (r2.2 != (0 : Int)) (some false)
      (cond (r3.2 != (0 : Int)) (some false)
      (cond (r4.2 != (0 : Int)) (some false)
      (cond (r5.2 != (0 : Int)) (some false)
      (cond ((r2.1.length : Int) == (0 : Int)) (some false)
      (chk (decide (0 ≤ w64 ((r2.1.length : Int) - (1 : Int)) ∧ w64 ((r2.1.length : Int) - (1 : Int)) < (r2.1.length : Int))) (cond ((r2.1.getD ((w64 ((r2.1.length : Int) - (1 : Int))).toNat) (0 : Int)) != sum8_a) (some false)
      (cond ((r4.1.length : Int) != (r2.1.length : Int)) (some false)
      (cond (decide (r5.1 > (r2.1.length : Int))) (some false)
      ((R10_2 a16 a17 a19 a43 N N (Sl10c times2 r3.1 r4.1 (0 : Int) r2.1 (r2.1.length : Int) (0 : Int))))))))))))))
      ((a17 r1).bind fun r7 =>
      (a17 plus10_b).bind fun r8 =>
      (a17 long11_a).bind fun r9 =>
      (a19 r1).bind fun r10 =>
      cond (r7.2 != (0 : Int)) (some false)
      (cond (r8.2 != (0 : Int)) (some false)
      (cond (r9.2 != (0 : Int)) (some false)
      (cond (r10.2 != (0 : Int)) (some false)
      (cond ((r7.1.length : Int) == (0 : Int)) (some false)
      (chk (decide (0 ≤ w64 ((r7.1.length : Int) - (1 : Int)) ∧ w64 ((r7.1.length : Int) - (1 : Int)) < (r7.1.length : Int))) (cond ((r7.1.getD ((w64 ((r7.1.length : Int) - (1 : Int))).toNat) (0 : Int)) != sum8_a) (some false)
      (cond ((r9.1.length : Int) != (r7.1.length : Int)) (some false)
      (cond (decide (r10.1 > (r7.1.length : Int))) (some false)
      ((R10_2 a16 a17 a19 a43 N N (Sl10c times2 r8.1 r9.1 (0 : Int) r7.1 (r7.1.length : Int) (0 : Int)))))))))))))) := by kernel_rfl
theorem ql10b (a16 : Option (Bool)) (a17 : (List Int) → Option (List Int × Int)) (a19 : (List Int) → Option (Int × Int)) (a43 : (List Int) → Option (List Int)) (N : Nat) (more1 : Int) (times2 : Int) (r1 : List Int) (sum8_a : Int) (long11_a : List Int) : ∀ (m : Nat) (put15_b : Bool) (t57_b : Int) (plus10_b : List Int), R10_1 a16 a17 a19 a43 N m (Sl10b more1 times2 r1 sum8_a long11_a put15_b t57_b plus10_b) = l10b a16 a17 a19 a43 N more1 times2 r1 sum8_a long11_a m put15_b t57_b plus10_b
        | 0, _, _, _ => rfl
        | m + 1, put15_b, t57_b, plus10_b => by rw [wl10b]; simp only [l10b, ql10c, ql10b a16 a17 a19 a43 N more1 times2 r1 sum8_a long11_a m]
def l10a (a16 : Option (Bool)) (a17 : (List Int) → Option (List Int × Int)) (a19 : (List Int) → Option (Int × Int)) (a43 : (List Int) → Option (List Int)) (N : Nat) (more1 : Int) (times2 : Int) (r1 : List Int) : Nat → Int → Int → (List Int) → Option (Bool)
  | 0, _, _, _ => none
  | n + 1, sum8_a, t37_a, long11_a => cond (decide (t37_a < (r1.length : Int))) (chk (decide (0 ≤ t37_a ∧ t37_a < (r1.length : Int))) (chk (small (long11_a.length + 1) 8) ((l10a a16 a17 a19 a43 N more1 times2 r1 n (w64 (sum8_a + (r1.getD t37_a.toNat (0 : Int)))) (w64 (t37_a + (1 : Int))) (long11_a ++ ([w64 ((w64 ((1 : Int) + (Int.tmod (w64 (times2)) (9 : Int)))) * (r1.getD t37_a.toNat (0 : Int)))] : List Int))))))
      ((l10b a16 a17 a19 a43 N more1 times2 r1 sum8_a long11_a N false (0 : Int) ([] : List Int)))
theorem wl10a (a16 : Option (Bool)) (a17 : (List Int) → Option (List Int × Int)) (a19 : (List Int) → Option (Int × Int)) (a43 : (List Int) → Option (List Int)) (N : Nat) (more1 : Int) (times2 : Int) (r1 : List Int) (m : Nat) (sum8_a : Int) (t37_a : Int) (long11_a : List Int) : R10_0 a16 a17 a19 a43 N (m + 1) (Sl10a more1 times2 r1 sum8_a t37_a long11_a) = cond (decide (t37_a < (r1.length : Int))) (chk (decide (0 ≤ t37_a ∧ t37_a < (r1.length : Int))) (chk (small (long11_a.length + 1) 8) ((R10_0 a16 a17 a19 a43 N m (Sl10a more1 times2 r1 (w64 (sum8_a + (r1.getD t37_a.toNat (0 : Int)))) (w64 (t37_a + (1 : Int))) (long11_a ++ ([w64 ((w64 ((1 : Int) + (Int.tmod (w64 (times2)) (9 : Int)))) * (r1.getD t37_a.toNat (0 : Int)))] : List Int)))))))
      ((R10_1 a16 a17 a19 a43 N N (Sl10b more1 times2 r1 sum8_a long11_a false (0 : Int) ([] : List Int)))) := by kernel_rfl
theorem ql10a (a16 : Option (Bool)) (a17 : (List Int) → Option (List Int × Int)) (a19 : (List Int) → Option (Int × Int)) (a43 : (List Int) → Option (List Int)) (N : Nat) (more1 : Int) (times2 : Int) (r1 : List Int) : ∀ (m : Nat) (sum8_a : Int) (t37_a : Int) (long11_a : List Int), R10_0 a16 a17 a19 a43 N m (Sl10a more1 times2 r1 sum8_a t37_a long11_a) = l10a a16 a17 a19 a43 N more1 times2 r1 m sum8_a t37_a long11_a
        | 0, _, _, _ => rfl
        | m + 1, sum8_a, t37_a, long11_a => by rw [wl10a]; simp only [l10a, ql10b, ql10a a16 a17 a19 a43 N more1 times2 r1 m]
def m10 (a16 : Option (Bool)) (a17 : (List Int) → Option (List Int × Int)) (a19 : (List Int) → Option (Int × Int)) (a43 : (List Int) → Option (List Int)) (N : Nat) (by0 : List Int) (more1 : Int) (times2 : Int) : Option (Bool) :=
      (a43 by0).bind fun r1 =>
      (l10a a16 a17 a19 a43 N more1 times2 r1 N (0 : Int) (0 : Int) ([] : List Int))
theorem wm10 (a16 : Option (Bool)) (a17 : (List Int) → Option (List Int × Int)) (a19 : (List Int) → Option (Int × Int)) (a43 : (List Int) → Option (List Int)) (N : Nat) (by0 : List Int) (more1 : Int) (times2 : Int) : callF (E10 a16 a17 a19 a43) lv10 N en10 c10 (resOf Try.f10) 187 [.dv (.sl (.int .u8)) by0, .dv (.int .u8) more1, .dv (.int .u8) times2] [] dec10 = (a43 by0).bind fun r1 =>
      (R10_0 a16 a17 a19 a43 N N (Sl10a more1 times2 r1 (0 : Int) (0 : Int) ([] : List Int))) := by kernel_rfl
theorem k10 (a16 : Option (Bool)) (a17 : (List Int) → Option (List Int × Int)) (a19 : (List Int) → Option (Int × Int)) (a43 : (List Int) → Option (List Int)) (N : Nat) (by0 : List Int) (more1 : Int) (times2 : Int) : callF (E10 a16 a17 a19 a43) lv10 N en10 c10 (resOf Try.f10) 187 [.dv (.sl (.int .u8)) by0, .dv (.int .u8) more1, .dv (.int .u8) times2] [] dec10 = m10 a16 a17 a19 a43 N by0 more1 times2 := by rw [wm10]; simp only [m10, ql10a]
theorem ok10 (a16 : Option (Bool)) (a17 : (List Int) → Option (List Int × Int)) (a19 : (List Int) → Option (Int × Int)) (a43 : (List Int) → Option (List Int)) (h16 : FnOk Try.prog 16 (F16 a16)) (h17 : FnOk Try.prog 17 (F17 a17)) (h19 : FnOk Try.prog 19 (F19 a19)) (h43 : FnOk Try.prog 43 (F43 a43)) (a : (List Int) → Int → Int → Option (Bool)) (h : ∀ by0 more1 times2 r, a by0 more1 times2 = some r → (∃ N, m10 a16 a17 a19 a43 N by0 more1 times2 = some r)) : FnOk Try.prog 10 (F10 a) := by
  intro args Of x hx
  simp only [F10] at hx
  split at hx
  · rename_i by0 more1 times2
    obtain ⟨N, hN⟩ := h _ _ _ _ hx
    refine lifted (L := [(16, F16 a16), (17, F17 a17), (19, F19 a19), (43, F43 a43)]) (rc := nrc) (fz := nfz) (fn := Try.f10) (by kernel_rfl) (by kernel_rfl) (by kernel_rfl) (by kernel_rfl) rfl ?_ ((k10 a16 a17 a19 a43 N _ _ _).trans hN) ?_
    · intro p hp; simp only [List.mem_cons, List.not_mem_nil, or_false] at hp; rcases hp with rfl | rfl | rfl | rfl
      · exact h16
      · exact h17
      · exact h19
      · exact h43
    · intro l o hd
      simp only [dec10] at hd
      split at hd
      · obtain rfl := Option.some.inj hd; exact ⟨rfl, rfl⟩
      · cases hd
  · cases hx
end Go.Proofs.Ytjcgjbdlgmbepaa
