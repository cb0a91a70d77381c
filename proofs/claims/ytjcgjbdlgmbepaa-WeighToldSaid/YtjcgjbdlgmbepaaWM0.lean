/-
  The functions that the examples of the chapter reaches, told as plain functions.
-/
import Derived.Test.YtjcgjbdlgmbepaaQFI
namespace Go.Proofs.Ytjcgjbdlgmbepaa
open Go.RowKit
set_option linter.unusedVariables false
def E57 : Env := mkE TI TY [] nrc nfz
noncomputable def c57 : Code := bodyOf Try.f57
def lv57 : Nat → Option Norm := norms []
def en57 : End := ⟨[], ⟨[15], [], [], []⟩⟩
def dec57 (l : List TV) (o : List (Nat × TO)) : Option (Bool) := match l, o with | [.dv (.bool) x0], [] => some (x0) | _, _ => none
def m57 (N : Nat) (lo0 : Int) (n1 : Int) (hi2 : Int) : Option (Bool) :=
      cond (decide (lo0 ≤ n1)) (some (decide (n1 ≤ hi2)))
      (some false)
theorem k57 (N : Nat) (lo0 : Int) (n1 : Int) (hi2 : Int) : callF (E57) lv57 N en57 c57 (resOf Try.f57) 12 [.dv (.int .i64) lo0, .dv (.int .i64) n1, .dv (.int .i64) hi2] [] dec57 = m57 N lo0 n1 hi2 := by kernel_rfl
theorem ok57 (a : Int → Int → Int → Option (Bool)) (h : ∀ lo0 n1 hi2 r, a lo0 n1 hi2 = some r → (∃ N, m57 N lo0 n1 hi2 = some r)) : FnOk Try.prog 57 (F57 a) := by
  intro args Of x hx
  simp only [F57] at hx
  split at hx
  · rename_i lo0 n1 hi2
    obtain ⟨N, hN⟩ := h _ _ _ _ hx
    refine lifted (L := []) (rc := nrc) (fz := nfz) (fn := Try.f57) (by kernel_rfl) (by kernel_rfl) (by kernel_rfl) (by kernel_rfl) rfl ?_ ((k57 N _ _ _).trans hN) ?_
    · intro p hp; cases hp
    · intro l o hd
      simp only [dec57] at hd
      split at hd
      · obtain rfl := Option.some.inj hd; exact ⟨rfl, rfl⟩
      · cases hd
  · cases hx
def E22 (a57 : Int → Int → Int → Option (Bool)) : Env := mkE TI TY [(57, F57 a57)] nrc nfz
noncomputable def c22 : Code := bodyOf Try.f22
def nm22_0 : Norm := ⟨[3, 14, 15, 16], [], [], []⟩
def lv22 : Nat → Option Norm := norms [(7, nm22_0)]
def en22 : End := ⟨[], ⟨[30], [], [], []⟩⟩
def dec22 (l : List TV) (o : List (Nat × TO)) : Option (Int) := match l, o with | [.dv (.int .i64) x0], [] => some (x0) | _, _ => none
noncomputable def K22_0 (a57 : Int → Int → Int → Option (Bool)) (N : Nat) : Kont (Int) := kont (E22 a57) lv22 N c22 [1, 1, 1, 0, 1, 0] (fin TI en22 (resOf Try.f22) dec22)
noncomputable def R22_0 (a57 : Int → Int → Int → Option (Bool)) (N : Nat) (m : Nat) : TS → Option (Int) := loopK (den (E22 a57) lv22 N (sub c22 [1, 1, 1, 0, 1, 0, 0])) (TS.norm nm22_0) (K22_0 a57 N) m
def Sl22a (weights0 : List Int) (last3_a : Int) (t16_a : Int) : TS := ⟨slots 30 [(3, .dv (.int .i64) last3_a), (14, .dv (.sl (.int .i64)) weights0), (15, .dv (.int .i64) (weights0.length : Int)), (16, .dv (.int .i64) t16_a)], []⟩
def l22a (a57 : Int → Int → Int → Option (Bool)) (N : Nat) (weights0 : List Int) : Nat → Int → Int → Option (Int)
  | 0, _, _ => none
  | n + 1, last3_a, t16_a => cond (decide (t16_a < (weights0.length : Int))) (chk (decide (0 ≤ t16_a ∧ t16_a < (weights0.length : Int))) ((a57 (1 : Int) (weights0.getD t16_a.toNat (0 : Int)) (2000 : Int)).bind fun r1 =>
      cond (!r1) (some (3 : Int))
      (cond (decide ((weights0.getD t16_a.toNat (0 : Int)) < last3_a)) (some (7 : Int))
      ((l22a a57 N weights0 n (weights0.getD t16_a.toNat (0 : Int)) (w64 (t16_a + (1 : Int))))))))
      (some (0 : Int))
theorem wl22a (a57 : Int → Int → Int → Option (Bool)) (N : Nat) (weights0 : List Int) (m : Nat) (last3_a : Int) (t16_a : Int) : R22_0 a57 N (m + 1) (Sl22a weights0 last3_a t16_a) = cond (decide (t16_a < (weights0.length : Int))) (chk (decide (0 ≤ t16_a ∧ t16_a < (weights0.length : Int))) ((a57 (1 : Int) (weights0.getD t16_a.toNat (0 : Int)) (2000 : Int)).bind fun r1 =>
      cond (!r1) (some (3 : Int))
      (cond (decide ((weights0.getD t16_a.toNat (0 : Int)) < last3_a)) (some (7 : Int))
      ((R22_0 a57 N m (Sl22a weights0 (weights0.getD t16_a.toNat (0 : Int)) (w64 (t16_a + (1 : Int)))))))))
      (some (0 : Int)) := by kernel_rfl
theorem ql22a (a57 : Int → Int → Int → Option (Bool)) (N : Nat) (weights0 : List Int) : ∀ (m : Nat) (last3_a : Int) (t16_a : Int), R22_0 a57 N m (Sl22a weights0 last3_a t16_a) = l22a a57 N weights0 m last3_a t16_a
        | 0, _, _ => rfl
        | m + 1, last3_a, t16_a => by rw [wl22a]; simp only [l22a, ql22a a57 N weights0 m]
def m22 (a57 : Int → Int → Int → Option (Bool)) (N : Nat) (weights0 : List Int) : Option (Int) :=
      cond ((weights0.length : Int) == (0 : Int)) (some (1 : Int))
      (cond (decide ((weights0.length : Int) > (7 : Int))) (some (2 : Int))
      ((l22a a57 N weights0 N (0 : Int) (0 : Int))))
theorem wm22 (a57 : Int → Int → Int → Option (Bool)) (N : Nat) (weights0 : List Int) : callF (E22 a57) lv22 N en22 c22 (resOf Try.f22) 29 [.dv (.sl (.int .i64)) weights0] [] dec22 = cond ((weights0.length : Int) == (0 : Int)) (some (1 : Int))
      (cond (decide ((weights0.length : Int) > (7 : Int))) (some (2 : Int))
      ((R22_0 a57 N N (Sl22a weights0 (0 : Int) (0 : Int))))) := by kernel_rfl
theorem k22 (a57 : Int → Int → Int → Option (Bool)) (N : Nat) (weights0 : List Int) : callF (E22 a57) lv22 N en22 c22 (resOf Try.f22) 29 [.dv (.sl (.int .i64)) weights0] [] dec22 = m22 a57 N weights0 := by rw [wm22]; simp only [m22, ql22a]
theorem ok22 (a57 : Int → Int → Int → Option (Bool)) (h57 : FnOk Try.prog 57 (F57 a57)) (a : (List Int) → Option (Int)) (h : ∀ weights0 r, a weights0 = some r → (∃ N, m22 a57 N weights0 = some r)) : FnOk Try.prog 22 (F22 a) := by
  intro args Of x hx
  simp only [F22] at hx
  split at hx
  · rename_i weights0
    obtain ⟨N, hN⟩ := h _ _ hx
    refine lifted (L := [(57, F57 a57)]) (rc := nrc) (fz := nfz) (fn := Try.f22) (by kernel_rfl) (by kernel_rfl) (by kernel_rfl) (by kernel_rfl) rfl ?_ ((k22 a57 N _).trans hN) ?_
    · intro p hp; simp only [List.mem_cons, List.not_mem_nil, or_false] at hp; rcases hp with rfl; exact h57
    · intro l o hd
      simp only [dec22] at hd
      split at hd
      · obtain rfl := Option.some.inj hd; exact ⟨rfl, rfl⟩
      · cases hd
  · cases hx
def E55 (a77c : (List Int) → Option (List Int)) (a78c : (List Int) → Option (List Int)) : Env := mkE TI TY [(77, F77c a77c), (78, F78c a78c)] nrc nfz
noncomputable def c55 : Code := bodyOf Try.f55
def nm55_0 : Norm := ⟨[3, 10, 11, 12], [], [], [(3, .sl (.int .i64))]⟩
def nm55_1 : Norm := ⟨[5, 10, 11, 12, 16, 17, 18], [], [(.slot 6, 1006, .int .i64)], []⟩
def lv55 : Nat → Option Norm := norms [(3, nm55_0), (7, nm55_1)]
def en55 : End := ⟨[(39, .sl (.int .i64))], ⟨[39], [], [], []⟩⟩
def dec55 (l : List TV) (o : List (Nat × TO)) : Option (List Int) := match l, o with | [.dv (.sl (.int .i64)) x0], [] => some (x0) | _, _ => none
noncomputable def K55_0 (a77c : (List Int) → Option (List Int)) (a78c : (List Int) → Option (List Int)) (N : Nat) : Kont (List Int) := kont (E55 a77c a78c) lv55 N c55 [1, 1, 0, 1, 0] (fin TI en55 (resOf Try.f55) dec55)
noncomputable def R55_0 (a77c : (List Int) → Option (List Int)) (a78c : (List Int) → Option (List Int)) (N : Nat) (m : Nat) : TS → Option (List Int) := loopK (den (E55 a77c a78c) lv55 N (sub c55 [1, 1, 0, 1, 0, 0])) (TS.norm nm55_0) (K55_0 a77c a78c N) m
noncomputable def K55_1 (a77c : (List Int) → Option (List Int)) (a78c : (List Int) → Option (List Int)) (N : Nat) (T55_0 : TS → Option (List Int)) : Kont (List Int) := kont (E55 a77c a78c) lv55 N (sub c55 [1, 1, 0, 1, 0, 0]) [1, 1, 0, 0, 1, 1, 0, 1, 0] (kloop (TS.norm nm55_0) (K55_0 a77c a78c N) T55_0)
noncomputable def R55_1 (a77c : (List Int) → Option (List Int)) (a78c : (List Int) → Option (List Int)) (N : Nat) (T55_0 : TS → Option (List Int)) (m : Nat) : TS → Option (List Int) := loopK (den (E55 a77c a78c) lv55 N (sub c55 [1, 1, 0, 1, 0, 0, 1, 1, 0, 0, 1, 1, 0, 1, 0, 0])) (TS.norm nm55_1) (K55_1 a77c a78c N T55_0) m
def Sl55b (weights0 : List Int) (out3_a : List Int) (t12_a : Int) (t18_b : Int) (next6_b : List Int) : TS := ⟨slots 39 [(5, .dv (.int .i64) (weights0.getD t12_a.toNat (0 : Int))), (6, .row 1006), (10, .dv (.sl (.int .i64)) weights0), (11, .dv (.int .i64) (weights0.length : Int)), (12, .dv (.int .i64) t12_a), (16, .dv (.sl (.int .i64)) out3_a), (17, .dv (.int .i64) (out3_a.length : Int)), (18, .dv (.int .i64) t18_b)], [(1006, .row (.int .i64) next6_b)]⟩
def Sl55a (weights0 : List Int) (out3_a : List Int) (t12_a : Int) : TS := ⟨slots 39 [(3, .dv (.sl (.int .i64)) out3_a), (10, .dv (.sl (.int .i64)) weights0), (11, .dv (.int .i64) (weights0.length : Int)), (12, .dv (.int .i64) t12_a)], []⟩
def l55b (a77c : (List Int) → Option (List Int)) (a78c : (List Int) → Option (List Int)) (N : Nat) (weights0 : List Int) (out3_a : List Int) (t12_a : Int) (rec_l55a : (List Int) → Int → Option (List Int)) : Nat → Int → (List Int) → Option (List Int)
  | 0, _, _ => none
  | n + 1, t18_b, next6_b => cond (decide (t18_b < (out3_a.length : Int))) (chk (decide (0 ≤ t18_b ∧ t18_b < (out3_a.length : Int))) (chk (small (next6_b.length + 3) 8) ((l55b a77c a78c N weights0 out3_a t12_a rec_l55a n (w64 (t18_b + (1 : Int))) (next6_b ++ ([w64 ((out3_a.getD t18_b.toNat (0 : Int)) - (weights0.getD t12_a.toNat (0 : Int))), out3_a.getD t18_b.toNat (0 : Int), w64 ((out3_a.getD t18_b.toNat (0 : Int)) + (weights0.getD t12_a.toNat (0 : Int)))] : List Int))))))
      ((a77c next6_b).bind fun r1 =>
      (a78c r1).bind fun r2 =>
      (rec_l55a r2 (w64 (t12_a + (1 : Int)))))
theorem wl55b (a77c : (List Int) → Option (List Int)) (a78c : (List Int) → Option (List Int)) (N : Nat) (weights0 : List Int) (out3_a : List Int) (t12_a : Int) (T55_0 : TS → Option (List Int)) (m : Nat) (t18_b : Int) (next6_b : List Int) : R55_1 a77c a78c N T55_0 (m + 1) (Sl55b weights0 out3_a t12_a t18_b next6_b) = cond (decide (t18_b < (out3_a.length : Int))) (chk (decide (0 ≤ t18_b ∧ t18_b < (out3_a.length : Int))) (chk (small (next6_b.length + 3) 8) ((R55_1 a77c a78c N T55_0 m (Sl55b weights0 out3_a t12_a (w64 (t18_b + (1 : Int))) (next6_b ++ ([w64 ((out3_a.getD t18_b.toNat (0 : Int)) - (weights0.getD t12_a.toNat (0 : Int))), out3_a.getD t18_b.toNat (0 : Int), w64 ((out3_a.getD t18_b.toNat (0 : Int)) + (weights0.getD t12_a.toNat (0 : Int)))] : List Int)))))))
      ((a77c next6_b).bind fun r1 =>
      (a78c r1).bind fun r2 =>
      (T55_0 (Sl55a weights0 r2 (w64 (t12_a + (1 : Int)))))) := by kernel_rfl
theorem ql55b (a77c : (List Int) → Option (List Int)) (a78c : (List Int) → Option (List Int)) (N : Nat) (weights0 : List Int) (out3_a : List Int) (t12_a : Int) (T55_0 : TS → Option (List Int)) : ∀ (m : Nat) (t18_b : Int) (next6_b : List Int), R55_1 a77c a78c N T55_0 m (Sl55b weights0 out3_a t12_a t18_b next6_b) = l55b a77c a78c N weights0 out3_a t12_a (fun y0 y1 => T55_0 (Sl55a weights0 y0 y1)) m t18_b next6_b
        | 0, _, _ => rfl
        | m + 1, t18_b, next6_b => by rw [wl55b]; simp only [l55b, ql55b a77c a78c N weights0 out3_a t12_a T55_0 m]
def l55a (a77c : (List Int) → Option (List Int)) (a78c : (List Int) → Option (List Int)) (N : Nat) (weights0 : List Int) : Nat → (List Int) → Int → Option (List Int)
  | 0, _, _ => none
  | n + 1, out3_a, t12_a => cond (decide (t12_a < (weights0.length : Int))) (chk (decide (0 ≤ t12_a ∧ t12_a < (weights0.length : Int))) ((l55b a77c a78c N weights0 out3_a t12_a (fun y0 y1 => (l55a a77c a78c N weights0 n y0 y1)) N (0 : Int) ([] : List Int))))
      (some out3_a)
theorem wl55a (a77c : (List Int) → Option (List Int)) (a78c : (List Int) → Option (List Int)) (N : Nat) (weights0 : List Int) (m : Nat) (out3_a : List Int) (t12_a : Int) : R55_0 a77c a78c N (m + 1) (Sl55a weights0 out3_a t12_a) = cond (decide (t12_a < (weights0.length : Int))) (chk (decide (0 ≤ t12_a ∧ t12_a < (weights0.length : Int))) ((R55_1 a77c a78c N (R55_0 a77c a78c N m) N (Sl55b weights0 out3_a t12_a (0 : Int) ([] : List Int)))))
      (some out3_a) := by kernel_rfl
theorem ql55a (a77c : (List Int) → Option (List Int)) (a78c : (List Int) → Option (List Int)) (N : Nat) (weights0 : List Int) : ∀ (m : Nat) (out3_a : List Int) (t12_a : Int), R55_0 a77c a78c N m (Sl55a weights0 out3_a t12_a) = l55a a77c a78c N weights0 m out3_a t12_a
        | 0, _, _ => rfl
        | m + 1, out3_a, t12_a => by rw [wl55a]; simp only [l55a, ql55b, ql55a a77c a78c N weights0 m]
def m55 (a77c : (List Int) → Option (List Int)) (a78c : (List Int) → Option (List Int)) (N : Nat) (weights0 : List Int) : Option (List Int) :=
      (l55a a77c a78c N weights0 N ([(0 : Int)] : List Int) (0 : Int))
theorem wm55 (a77c : (List Int) → Option (List Int)) (a78c : (List Int) → Option (List Int)) (N : Nat) (weights0 : List Int) : callF (E55 a77c a78c) lv55 N en55 c55 (resOf Try.f55) 38 [.dv (.sl (.int .i64)) weights0] [] dec55 = (R55_0 a77c a78c N N (Sl55a weights0 ([(0 : Int)] : List Int) (0 : Int))) := by kernel_rfl
theorem k55 (a77c : (List Int) → Option (List Int)) (a78c : (List Int) → Option (List Int)) (N : Nat) (weights0 : List Int) : callF (E55 a77c a78c) lv55 N en55 c55 (resOf Try.f55) 38 [.dv (.sl (.int .i64)) weights0] [] dec55 = m55 a77c a78c N weights0 := by rw [wm55]; simp only [m55, ql55a]
theorem ok55 (a77c : (List Int) → Option (List Int)) (a78c : (List Int) → Option (List Int)) (h77c : FnOk Try.prog 77 (F77c a77c)) (h78c : FnOk Try.prog 78 (F78c a78c)) (a : (List Int) → Option (List Int)) (h : ∀ weights0 r, a weights0 = some r → (∃ N, m55 a77c a78c N weights0 = some r)) : FnOk Try.prog 55 (F55 a) := by
  intro args Of x hx
  simp only [F55] at hx
  split at hx
  · rename_i weights0
    obtain ⟨N, hN⟩ := h _ _ hx
    refine lifted (L := [(77, F77c a77c), (78, F78c a78c)]) (rc := nrc) (fz := nfz) (fn := Try.f55) (by kernel_rfl) (by kernel_rfl) (by kernel_rfl) (by kernel_rfl) rfl ?_ ((k55 a77c a78c N _).trans hN) ?_
    · intro p hp; simp only [List.mem_cons, List.not_mem_nil, or_false] at hp; rcases hp with rfl | rfl
      · exact h77c
      · exact h78c
    · intro l o hd
      simp only [dec55] at hd
      split at hd
      · obtain rfl := Option.some.inj hd; exact ⟨rfl, rfl⟩
      · cases hd
  · cases hx
def E17 (a22 : (List Int) → Option (Int)) (a55 : (List Int) → Option (List Int)) : Env := mkE TI TY [(22, F22 a22), (55, F55 a55)] nrc nfz
noncomputable def c17 : Code := bodyOf Try.f17
def lv17 : Nat → Option Norm := norms []
def en17 : End := ⟨[(19, .sl (.int .i64))], ⟨[19, 20], [], [], []⟩⟩
def dec17 (l : List TV) (o : List (Nat × TO)) : Option (List Int × Int) := match l, o with | [.dv (.sl (.int .i64)) x0, .dv (.int .i64) x1], [] => some (x0, x1) | _, _ => none
def m17 (a22 : (List Int) → Option (Int)) (a55 : (List Int) → Option (List Int)) (N : Nat) (weights0 : List Int) : Option (List Int × Int) :=
      (a22 weights0).bind fun r1 =>
      cond (r1 != (0 : Int)) (some (([] : List Int), r1))
      ((a55 weights0).bind fun r2 =>
      chk (decide (0 ≤ w64 ((w64 (Int.tdiv (r2.length : Int) (2 : Int))) + (1 : Int)) ∧ w64 ((w64 (Int.tdiv (r2.length : Int) (2 : Int))) + (1 : Int)) ≤ (r2.length : Int))) (some (r2.drop ((w64 ((w64 (Int.tdiv (r2.length : Int) (2 : Int))) + (1 : Int))).toNat), (0 : Int))))
theorem k17 (a22 : (List Int) → Option (Int)) (a55 : (List Int) → Option (List Int)) (N : Nat) (weights0 : List Int) : callF (E17 a22 a55) lv17 N en17 c17 (resOf Try.f17) 18 [.dv (.sl (.int .i64)) weights0] [] dec17 = m17 a22 a55 N weights0 := by kernel_rfl
theorem ok17 (a22 : (List Int) → Option (Int)) (a55 : (List Int) → Option (List Int)) (h22 : FnOk Try.prog 22 (F22 a22)) (h55 : FnOk Try.prog 55 (F55 a55)) (a : (List Int) → Option (List Int × Int)) (h : ∀ weights0 r, a weights0 = some r → (∃ N, m17 a22 a55 N weights0 = some r)) : FnOk Try.prog 17 (F17 a) := by
  intro args Of x hx
  simp only [F17] at hx
  split at hx
  · rename_i weights0
    obtain ⟨N, hN⟩ := h _ _ hx
    refine lifted (L := [(22, F22 a22), (55, F55 a55)]) (rc := nrc) (fz := nfz) (fn := Try.f17) (by kernel_rfl) (by kernel_rfl) (by kernel_rfl) (by kernel_rfl) rfl ?_ ((k17 a22 a55 N _).trans hN) ?_
    · intro p hp; simp only [List.mem_cons, List.not_mem_nil, or_false] at hp; rcases hp with rfl | rfl
      · exact h22
      · exact h55
    · intro l o hd
      simp only [dec17] at hd
      split at hd
      · obtain rfl := Option.some.inj hd; exact ⟨rfl, rfl⟩
      · cases hd
  · cases hx
def E19 (a17 : (List Int) → Option (List Int × Int)) : Env := mkE TI TY [(17, F17 a17)] nrc nfz
noncomputable def c19 : Code := bodyOf Try.f19
def nm19_0 : Norm := ⟨[4, 6], [], [], []⟩
def lv19 : Nat → Option Norm := norms [(5, nm19_0)]
def en19 : End := ⟨[], ⟨[31, 32], [], [], []⟩⟩
def dec19 (l : List TV) (o : List (Nat × TO)) : Option (Int × Int) := match l, o with | [.dv (.int .i64) x0, .dv (.int .i64) x1], [] => some (x0, x1) | _, _ => none
noncomputable def K19_0 (a17 : (List Int) → Option (List Int × Int)) (N : Nat) : Kont (Int × Int) := kont (E19 a17) lv19 N c19 [1, 1, 1, 1, 0, 0] (fin TI en19 (resOf Try.f19) dec19)
noncomputable def R19_0 (a17 : (List Int) → Option (List Int × Int)) (N : Nat) (m : Nat) : TS → Option (Int × Int) := loopK (den (E19 a17) lv19 N (sub c19 [1, 1, 1, 1, 0, 0, 0])) (TS.norm nm19_0) (K19_0 a17 N) m
def Sl19a (r1 : List Int × Int) (n6_a : Int) : TS := ⟨slots 31 [(4, .dv (.sl (.int .i64)) r1.1), (6, .dv (.int .i64) n6_a)], []⟩
def l19a (a17 : (List Int) → Option (List Int × Int)) (N : Nat) (r1 : List Int × Int) : Nat → Int → Option (Int × Int)
  | 0, _ => none
  | n + 1, n6_a => cond (decide (n6_a < (r1.1.length : Int))) (chk (decide (0 ≤ n6_a ∧ n6_a < (r1.1.length : Int))) (cond ((r1.1.getD n6_a.toNat (0 : Int)) == (w64 (n6_a + (1 : Int)))) ((l19a a17 N r1 n (w64 (n6_a + (1 : Int)))))
      (some (n6_a, (0 : Int)))))
      (some (n6_a, (0 : Int)))
theorem wl19a (a17 : (List Int) → Option (List Int × Int)) (N : Nat) (r1 : List Int × Int) (m : Nat) (n6_a : Int) : R19_0 a17 N (m + 1) (Sl19a r1 n6_a) = cond (decide (n6_a < (r1.1.length : Int))) (chk (decide (0 ≤ n6_a ∧ n6_a < (r1.1.length : Int))) (cond ((r1.1.getD n6_a.toNat (0 : Int)) == (w64 (n6_a + (1 : Int)))) ((R19_0 a17 N m (Sl19a r1 (w64 (n6_a + (1 : Int))))))
      (some (n6_a, (0 : Int)))))
      (some (n6_a, (0 : Int))) := by kernel_rfl
theorem ql19a (a17 : (List Int) → Option (List Int × Int)) (N : Nat) (r1 : List Int × Int) : ∀ (m : Nat) (n6_a : Int), R19_0 a17 N m (Sl19a r1 n6_a) = l19a a17 N r1 m n6_a
        | 0, _ => rfl
        | m + 1, n6_a => by rw [wl19a]; simp only [l19a, ql19a a17 N r1 m]
def m19 (a17 : (List Int) → Option (List Int × Int)) (N : Nat) (weights0 : List Int) : Option (Int × Int) :=
      (a17 weights0).bind fun r1 =>
      cond (r1.2 != (0 : Int)) (some ((0 : Int), r1.2))
      ((l19a a17 N r1 N (0 : Int)))
theorem wm19 (a17 : (List Int) → Option (List Int × Int)) (N : Nat) (weights0 : List Int) : callF (E19 a17) lv19 N en19 c19 (resOf Try.f19) 30 [.dv (.sl (.int .i64)) weights0] [] dec19 = (a17 weights0).bind fun r1 =>
      cond (r1.2 != (0 : Int)) (some ((0 : Int), r1.2))
      ((R19_0 a17 N N (Sl19a r1 (0 : Int)))) := by kernel_rfl
theorem k19 (a17 : (List Int) → Option (List Int × Int)) (N : Nat) (weights0 : List Int) : callF (E19 a17) lv19 N en19 c19 (resOf Try.f19) 30 [.dv (.sl (.int .i64)) weights0] [] dec19 = m19 a17 N weights0 := by rw [wm19]; simp only [m19, ql19a]
theorem ok19 (a17 : (List Int) → Option (List Int × Int)) (h17 : FnOk Try.prog 17 (F17 a17)) (a : (List Int) → Option (Int × Int)) (h : ∀ weights0 r, a weights0 = some r → (∃ N, m19 a17 N weights0 = some r)) : FnOk Try.prog 19 (F19 a) := by
  intro args Of x hx
  simp only [F19] at hx
  split at hx
  · rename_i weights0
    obtain ⟨N, hN⟩ := h _ _ hx
    refine lifted (L := [(17, F17 a17)]) (rc := nrc) (fz := nfz) (fn := Try.f19) (by kernel_rfl) (by kernel_rfl) (by kernel_rfl) (by kernel_rfl) rfl ?_ ((k19 a17 N _).trans hN) ?_
    · intro p hp; simp only [List.mem_cons, List.not_mem_nil, or_false] at hp; rcases hp with rfl; exact h17
    · intro l o hd
      simp only [dec19] at hd
      split at hd
      · obtain rfl := Option.some.inj hd; exact ⟨rfl, rfl⟩
      · cases hd
  · cases hx
def E21 : Env := mkE TI TY [] nrc nfz
noncomputable def c21 : Code := bodyOf Try.f21
def nm21_0 : Norm := ⟨[0, 1, 5], [], [], []⟩
def lv21 : Nat → Option Norm := norms [(4, nm21_0)]
def en21 : End := ⟨[], ⟨[26], [], [], []⟩⟩
def dec21 (l : List TV) (o : List (Nat × TO)) : Option (Bool) := match l, o with | [.dv (.bool) x0], [] => some (x0) | _, _ => none
noncomputable def K21_0 (N : Nat) : Kont (Bool) := kont (E21) lv21 N c21 [1, 1, 0, 1, 0] (fin TI en21 (resOf Try.f21) dec21)
noncomputable def R21_0 (N : Nat) (m : Nat) : TS → Option (Bool) := loopK (den (E21) lv21 N (sub c21 [1, 1, 0, 1, 0, 0])) (TS.norm nm21_0) (K21_0 N) m
def Sl21a (a0 : List Int) (b1 : List Int) (i5_a : Int) : TS := ⟨slots 26 [(0, .dv (.sl (.int .i64)) a0), (1, .dv (.sl (.int .i64)) b1), (5, .dv (.int .i64) i5_a)], []⟩
def l21a (N : Nat) (a0 : List Int) (b1 : List Int) : Nat → Int → Option (Bool)
  | 0, _ => none
  | n + 1, i5_a => cond (decide (i5_a < (a0.length : Int))) (chk (decide (0 ≤ i5_a ∧ i5_a < (a0.length : Int))) (chk (decide (0 ≤ i5_a ∧ i5_a < (b1.length : Int))) (cond ((a0.getD i5_a.toNat (0 : Int)) != (b1.getD i5_a.toNat (0 : Int))) (some false)
      ((l21a N a0 b1 n (w64 (i5_a + (1 : Int))))))))
      (some true)
theorem wl21a (N : Nat) (a0 : List Int) (b1 : List Int) (m : Nat) (i5_a : Int) : R21_0 N (m + 1) (Sl21a a0 b1 i5_a) = cond (decide (i5_a < (a0.length : Int))) (chk (decide (0 ≤ i5_a ∧ i5_a < (a0.length : Int))) (chk (decide (0 ≤ i5_a ∧ i5_a < (b1.length : Int))) (cond ((a0.getD i5_a.toNat (0 : Int)) != (b1.getD i5_a.toNat (0 : Int))) (some false)
      ((R21_0 N m (Sl21a a0 b1 (w64 (i5_a + (1 : Int)))))))))
      (some true) := by kernel_rfl
theorem ql21a (N : Nat) (a0 : List Int) (b1 : List Int) : ∀ (m : Nat) (i5_a : Int), R21_0 N m (Sl21a a0 b1 i5_a) = l21a N a0 b1 m i5_a
        | 0, _ => rfl
        | m + 1, i5_a => by rw [wl21a]; simp only [l21a, ql21a N a0 b1 m]
def m21 (N : Nat) (a0 : List Int) (b1 : List Int) : Option (Bool) :=
      cond ((a0.length : Int) != (b1.length : Int)) (some false)
      ((l21a N a0 b1 N (0 : Int)))
theorem wm21 (N : Nat) (a0 : List Int) (b1 : List Int) : callF (E21) lv21 N en21 c21 (resOf Try.f21) 24 [.dv (.sl (.int .i64)) a0, .dv (.sl (.int .i64)) b1] [] dec21 = cond ((a0.length : Int) != (b1.length : Int)) (some false)
      ((R21_0 N N (Sl21a a0 b1 (0 : Int)))) := by kernel_rfl
theorem k21 (N : Nat) (a0 : List Int) (b1 : List Int) : callF (E21) lv21 N en21 c21 (resOf Try.f21) 24 [.dv (.sl (.int .i64)) a0, .dv (.sl (.int .i64)) b1] [] dec21 = m21 N a0 b1 := by rw [wm21]; simp only [m21, ql21a]
theorem ok21 (a : (List Int) → (List Int) → Option (Bool)) (h : ∀ a0 b1 r, a a0 b1 = some r → (∃ N, m21 N a0 b1 = some r)) : FnOk Try.prog 21 (F21 a) := by
  intro args Of x hx
  simp only [F21] at hx
  split at hx
  · rename_i a0 b1
    obtain ⟨N, hN⟩ := h _ _ _ hx
    refine lifted (L := []) (rc := nrc) (fz := nfz) (fn := Try.f21) (by kernel_rfl) (by kernel_rfl) (by kernel_rfl) (by kernel_rfl) rfl ?_ ((k21 N _ _).trans hN) ?_
    · intro p hp; cases hp
    · intro l o hd
      simp only [dec21] at hd
      split at hd
      · obtain rfl := Option.some.inj hd; exact ⟨rfl, rfl⟩
      · cases hd
  · cases hx
def E26 (a57 : Int → Int → Int → Option (Bool)) : Env := mkE TI TY [(57, F57 a57)] nrc nfz
noncomputable def c26 : Code := bodyOf Try.f26
def nm26_0 : Norm := ⟨[0, 5, 6], [], [(.slot 4, 1004, .int .i64)], []⟩
def lv26 : Nat → Option Norm := norms [(6, nm26_0)]
def en26 : End := ⟨[(23, .sl (.int .i64))], ⟨[23, 24], [], [], []⟩⟩
def dec26 (l : List TV) (o : List (Nat × TO)) : Option (List Int × Int) := match l, o with | [.dv (.sl (.int .i64)) x0, .dv (.int .i64) x1], [] => some (x0, x1) | _, _ => none
noncomputable def K26_0 (a57 : Int → Int → Int → Option (Bool)) (N : Nat) : Kont (List Int × Int) := kont (E26 a57) lv26 N c26 [1, 1, 1, 1, 0, 1, 0] (fin TI en26 (resOf Try.f26) dec26)
noncomputable def R26_0 (a57 : Int → Int → Int → Option (Bool)) (N : Nat) (m : Nat) : TS → Option (List Int × Int) := loopK (den (E26 a57) lv26 N (sub c26 [1, 1, 1, 1, 0, 1, 0, 0])) (TS.norm nm26_0) (K26_0 a57 N) m
def Sl26a (load0 : Int) (reach5_a : Int) (next6_a : Int) (out4_a : List Int) : TS := ⟨slots 23 [(0, .dv (.int .i64) load0), (4, .row 1004), (5, .dv (.int .i64) reach5_a), (6, .dv (.int .i64) next6_a)], [(1004, .row (.int .i64) out4_a)]⟩
def l26a (a57 : Int → Int → Int → Option (Bool)) (N : Nat) (load0 : Int) : Nat → Int → Int → (List Int) → Option (List Int × Int)
  | 0, _, _, _ => none
  | n + 1, reach5_a, next6_a, out4_a => cond (decide (reach5_a < load0)) (chk (small (out4_a.length + 1) 8) ((l26a a57 N load0 n (w64 (reach5_a + next6_a)) (w64 (next6_a * (3 : Int))) (out4_a ++ ([next6_a] : List Int)))))
      (some (out4_a, (0 : Int)))
theorem wl26a (a57 : Int → Int → Int → Option (Bool)) (N : Nat) (load0 : Int) (m : Nat) (reach5_a : Int) (next6_a : Int) (out4_a : List Int) : R26_0 a57 N (m + 1) (Sl26a load0 reach5_a next6_a out4_a) = cond (decide (reach5_a < load0)) (chk (small (out4_a.length + 1) 8) ((R26_0 a57 N m (Sl26a load0 (w64 (reach5_a + next6_a)) (w64 (next6_a * (3 : Int))) (out4_a ++ ([next6_a] : List Int))))))
      (some (out4_a, (0 : Int))) := by kernel_rfl
theorem ql26a (a57 : Int → Int → Int → Option (Bool)) (N : Nat) (load0 : Int) : ∀ (m : Nat) (reach5_a : Int) (next6_a : Int) (out4_a : List Int), R26_0 a57 N m (Sl26a load0 reach5_a next6_a out4_a) = l26a a57 N load0 m reach5_a next6_a out4_a
        | 0, _, _, _ => rfl
        | m + 1, reach5_a, next6_a, out4_a => by rw [wl26a]; simp only [l26a, ql26a a57 N load0 m]
def m26 (a57 : Int → Int → Int → Option (Bool)) (N : Nat) (load0 : Int) : Option (List Int × Int) :=
      (a57 (1 : Int) load0 (1093 : Int)).bind fun r1 =>
      cond (!r1) (some (([] : List Int), (3 : Int)))
      ((l26a a57 N load0 N (0 : Int) (1 : Int) ([] : List Int)))
theorem wm26 (a57 : Int → Int → Int → Option (Bool)) (N : Nat) (load0 : Int) : callF (E26 a57) lv26 N en26 c26 (resOf Try.f26) 22 [.dv (.int .i64) load0] [] dec26 = (a57 (1 : Int) load0 (1093 : Int)).bind fun r1 =>
      cond (!r1) (some (([] : List Int), (3 : Int)))
      ((R26_0 a57 N N (Sl26a load0 (0 : Int) (1 : Int) ([] : List Int)))) := by kernel_rfl
theorem k26 (a57 : Int → Int → Int → Option (Bool)) (N : Nat) (load0 : Int) : callF (E26 a57) lv26 N en26 c26 (resOf Try.f26) 22 [.dv (.int .i64) load0] [] dec26 = m26 a57 N load0 := by rw [wm26]; simp only [m26, ql26a]
theorem ok26 (a57 : Int → Int → Int → Option (Bool)) (h57 : FnOk Try.prog 57 (F57 a57)) (a : Int → Option (List Int × Int)) (h : ∀ load0 r, a load0 = some r → (∃ N, m26 a57 N load0 = some r)) : FnOk Try.prog 26 (F26 a) := by
  intro args Of x hx
  simp only [F26] at hx
  split at hx
  · rename_i load0
    obtain ⟨N, hN⟩ := h _ _ hx
    refine lifted (L := [(57, F57 a57)]) (rc := nrc) (fz := nfz) (fn := Try.f26) (by kernel_rfl) (by kernel_rfl) (by kernel_rfl) (by kernel_rfl) rfl ?_ ((k26 a57 N _).trans hN) ?_
    · intro p hp; simp only [List.mem_cons, List.not_mem_nil, or_false] at hp; rcases hp with rfl; exact h57
    · intro l o hd
      simp only [dec26] at hd
      split at hd
      · obtain rfl := Option.some.inj hd; exact ⟨rfl, rfl⟩
      · cases hd
  · cases hx
def E24 (a26 : Int → Option (List Int × Int)) : Env := mkE TI TY [(26, F26 a26)] nrc nfz
noncomputable def c24 : Code := bodyOf Try.f24
def lv24 : Nat → Option Norm := norms []
def en24 : End := ⟨[], ⟨[14, 15], [], [], []⟩⟩
def dec24 (l : List TV) (o : List (Nat × TO)) : Option (Int × Int) := match l, o with | [.dv (.int .i64) x0, .dv (.int .i64) x1], [] => some (x0, x1) | _, _ => none
def m24 (a26 : Int → Option (List Int × Int)) (N : Nat) (load0 : Int) : Option (Int × Int) :=
      (a26 load0).bind fun r1 =>
      some ((r1.1.length : Int), r1.2)
theorem k24 (a26 : Int → Option (List Int × Int)) (N : Nat) (load0 : Int) : callF (E24 a26) lv24 N en24 c24 (resOf Try.f24) 13 [.dv (.int .i64) load0] [] dec24 = m24 a26 N load0 := by kernel_rfl
theorem ok24 (a26 : Int → Option (List Int × Int)) (h26 : FnOk Try.prog 26 (F26 a26)) (a : Int → Option (Int × Int)) (h : ∀ load0 r, a load0 = some r → (∃ N, m24 a26 N load0 = some r)) : FnOk Try.prog 24 (F24 a) := by
  intro args Of x hx
  simp only [F24] at hx
  split at hx
  · rename_i load0
    obtain ⟨N, hN⟩ := h _ _ hx
    refine lifted (L := [(26, F26 a26)]) (rc := nrc) (fz := nfz) (fn := Try.f24) (by kernel_rfl) (by kernel_rfl) (by kernel_rfl) (by kernel_rfl) rfl ?_ ((k24 a26 N _).trans hN) ?_
    · intro p hp; simp only [List.mem_cons, List.not_mem_nil, or_false] at hp; rcases hp with rfl; exact h26
    · intro l o hd
      simp only [dec24] at hd
      split at hd
      · obtain rfl := Option.some.inj hd; exact ⟨rfl, rfl⟩
      · cases hd
  · cases hx
def E60 : Env := mkE TI TY [] nrc nfz
noncomputable def c60 : Code := bodyOf Try.f60
def lv60 : Nat → Option Norm := norms []
def en60 : End := ⟨[(8, .nsl (.int .i64))], ⟨[8], [], [], []⟩⟩
def dec60 (l : List TV) (o : List (Nat × TO)) : Option (Option (List Int)) := match l, o with | [.dv (.nsl (.int .i64)) x0], [] => some (x0) | _, _ => none
def m60 (N : Nat) (s0 : Option (List Int)) : Option (Option (List Int)) :=
      cond (s0.isNone) (some (none : Option (List Int)))
      (chk (small (0 + (s0.getD []).length) 8) (chk ((decide (0 < (([] : List Int) ++ (s0.getD [])).length)) && (true)) (some (some (([] : List Int) ++ (s0.getD []))))))
theorem k60 (N : Nat) (s0 : Option (List Int)) : callF (E60) lv60 N en60 c60 (resOf Try.f60) 7 [.dv (.nsl (.int .i64)) s0] [] dec60 = m60 N s0 := by kernel_rfl
theorem ok60 (a : (Option (List Int)) → Option (Option (List Int))) (h : ∀ s0 r, a s0 = some r → (∃ N, m60 N s0 = some r)) : FnOk Try.prog 60 (F60 a) := by
  intro args Of x hx
  simp only [F60] at hx
  split at hx
  · rename_i s0
    obtain ⟨N, hN⟩ := h _ _ hx
    refine lifted (L := []) (rc := nrc) (fz := nfz) (fn := Try.f60) (by kernel_rfl) (by kernel_rfl) (by kernel_rfl) (by kernel_rfl) rfl ?_ ((k60 N _).trans hN) ?_
    · intro p hp; cases hp
    · intro l o hd
      simp only [dec60] at hd
      split at hd
      · obtain rfl := Option.some.inj hd; exact ⟨rfl, rfl⟩
      · cases hd
  · cases hx
def E61 : Env := mkE TI TY [] nrc nfz
noncomputable def c61 : Code := bodyOf Try.f61
def lv61 : Nat → Option Norm := norms []
def en61 : End := ⟨[(9, .csl (.int .i64))], ⟨[9], [], [], []⟩⟩
def dec61 (l : List TV) (o : List (Nat × TO)) : Option (List Int) := match l, o with | [.dv (.csl (.int .i64)) x0], [] => some (x0) | _, _ => none
def m61 (N : Nat) (s0 : List Int) : Option (List Int) :=
      chk (decide (0 ≤ (s0.length : Int) ∧ (s0.length : Int) ≤ (s0.length : Int)) && decide ((s0.length : Int) = (s0.length : Int))) (some (s0.take ((s0.length : Int).toNat)))
theorem k61 (N : Nat) (s0 : List Int) : callF (E61) lv61 N en61 c61 (resOf Try.f61) 8 [.dv (.sl (.int .i64)) s0] [] dec61 = m61 N s0 := by kernel_rfl
theorem ok61 (a : (List Int) → Option (List Int)) (h : ∀ s0 r, a s0 = some r → (∃ N, m61 N s0 = some r)) : FnOk Try.prog 61 (F61 a) := by
  intro args Of x hx
  simp only [F61] at hx
  split at hx
  · rename_i s0
    obtain ⟨N, hN⟩ := h _ _ hx
    refine lifted (L := []) (rc := nrc) (fz := nfz) (fn := Try.f61) (by kernel_rfl) (by kernel_rfl) (by kernel_rfl) (by kernel_rfl) rfl ?_ ((k61 N _).trans hN) ?_
    · intro p hp; cases hp
    · intro l o hd
      simp only [dec61] at hd
      split at hd
      · obtain rfl := Option.some.inj hd; exact ⟨rfl, rfl⟩
      · cases hd
  · cases hx
def E59c (a59c : (List Int) → Int → Int → Int → (List Int) → Option (Option (List Int) × List Int)) (a60 : (Option (List Int)) → Option (Option (List Int))) (a61 : (List Int) → Option (List Int)) : Env := mkE TI TY [(59, F59c a59c), (60, F60 a60), (61, F61 a61)] nrc nfz
noncomputable def c59c : Code := bodyOf Try.f59
def nm59c_0 : Norm := ⟨[0, 1, 2, 3, 5, 11, 42, 43], [9001, 9000], [], []⟩
def lv59c : Nat → Option Norm := norms [(7, nm59c_0)]
def en59c : End := ⟨[(70, .nsl (.int .i64))], ⟨[70], [9000, 9001], [], []⟩⟩
def dec59c (l : List TV) (o : List (Nat × TO)) : Option (Option (List Int) × List Int) := match l, o, capsOf [] o with | [.dv (.nsl (.int .i64)) x0], [(9000, .rcd [.dv (.sl (.int .i64)) x1]), (9001, .rcd [.fn 59 0 2 _])], [[.ptr 9000 0 [0], .ptr 9001 0 [0]]] => some (x0, x1) | _, _, _ => none
noncomputable def K59c_0 (a59c : (List Int) → Int → Int → Int → (List Int) → Option (Option (List Int) × List Int)) (a60 : (Option (List Int)) → Option (Option (List Int))) (a61 : (List Int) → Option (List Int)) (N : Nat) : Kont (Option (List Int) × List Int) := kont (E59c a59c a60 a61) lv59c N c59c [1, 1, 1, 0, 1, 0] (fin TI en59c (resOf Try.f59) dec59c)
noncomputable def R59c_0 (a59c : (List Int) → Int → Int → Int → (List Int) → Option (Option (List Int) × List Int)) (a60 : (Option (List Int)) → Option (Option (List Int))) (a61 : (List Int) → Option (List Int)) (N : Nat) (m : Nat) : TS → Option (Option (List Int) × List Int) := loopK (den (E59c a59c a60 a61) lv59c N (sub c59c [1, 1, 1, 0, 1, 0, 0])) (TS.norm nm59c_0) (K59c_0 a59c a60 a61 N) m
def Sl59ca (laying0 : List Int) (left1 : Int) (rest2 : Int) (use3 : Int) (p4 : List Int) (t43_a : Int) (o9000_af0 : List Int) : TS := ⟨slots 70 [(0, .dv (.sl (.int .i64)) laying0), (1, .dv (.int .i64) left1), (2, .dv (.int .i64) rest2), (3, .dv (.int .i64) use3), (5, .ptr 9001 0 [0]), (11, .dv (.int .i64) (p4.getD ((laying0.length : Int).toNat) (0 : Int))), (42, .dv (.arr 3 (.int .i64)) ([(1 : Int), (0 : Int), (-1 : Int)] : List Int)), (43, .dv (.int .i64) t43_a)], [(9001, .rcd [.fn 59 0 2 fun i => ([.ptr 9000 0 [0], .ptr 9001 0 [0]] : List TV).getD i .any]), (9000, .rcd [.dv (.sl (.int .i64)) o9000_af0])]⟩
def l59ca (a59c : (List Int) → Int → Int → Int → (List Int) → Option (Option (List Int) × List Int)) (a60 : (Option (List Int)) → Option (Option (List Int))) (a61 : (List Int) → Option (List Int)) (N : Nat) (laying0 : List Int) (left1 : Int) (rest2 : Int) (use3 : Int) (p4 : List Int) : Nat → Int → (List Int) → Option (Option (List Int) × List Int)
  | 0, _, _ => none
  | n + 1, t43_a, o9000_af0 => cond (decide (t43_a < (3 : Int))) (chk (decide (0 ≤ t43_a ∧ t43_a < (3 : Int))) ((a61 laying0).bind fun r2 =>
      chk (small (r2.length + 1) 8) ((a59c (r2 ++ ([([(1 : Int), (0 : Int), (-1 : Int)] : List Int).getD t43_a.toNat (0 : Int)] : List Int)) (w64 (left1 - (w64 ((([(1 : Int), (0 : Int), (-1 : Int)] : List Int).getD t43_a.toNat (0 : Int)) * (p4.getD ((laying0.length : Int).toNat) (0 : Int)))))) (w64 (rest2 - (p4.getD ((laying0.length : Int).toNat) (0 : Int)))) (w64 (use3 - (w64 ((([(1 : Int), (0 : Int), (-1 : Int)] : List Int).getD t43_a.toNat (0 : Int)) * (([(1 : Int), (0 : Int), (-1 : Int)] : List Int).getD t43_a.toNat (0 : Int)))))) o9000_af0).bind fun r3 =>
      cond (!r3.1.isNone) (some (r3.1, r3.2))
      ((l59ca a59c a60 a61 N laying0 left1 rest2 use3 p4 n (w64 (t43_a + (1 : Int))) r3.2)))))
      (some ((none : Option (List Int)), o9000_af0))
theorem wl59ca (a59c : (List Int) → Int → Int → Int → (List Int) → Option (Option (List Int) × List Int)) (a60 : (Option (List Int)) → Option (Option (List Int))) (a61 : (List Int) → Option (List Int)) (N : Nat) (laying0 : List Int) (left1 : Int) (rest2 : Int) (use3 : Int) (p4 : List Int) (m : Nat) (t43_a : Int) (o9000_af0 : List Int) : R59c_0 a59c a60 a61 N (m + 1) (Sl59ca laying0 left1 rest2 use3 p4 t43_a o9000_af0) = cond (decide (t43_a < (3 : Int))) (chk (decide (0 ≤ t43_a ∧ t43_a < (3 : Int))) ((a61 laying0).bind fun r2 =>
      chk (small (r2.length + 1) 8) ((a59c (r2 ++ ([([(1 : Int), (0 : Int), (-1 : Int)] : List Int).getD t43_a.toNat (0 : Int)] : List Int)) (w64 (left1 - (w64 ((([(1 : Int), (0 : Int), (-1 : Int)] : List Int).getD t43_a.toNat (0 : Int)) * (p4.getD ((laying0.length : Int).toNat) (0 : Int)))))) (w64 (rest2 - (p4.getD ((laying0.length : Int).toNat) (0 : Int)))) (w64 (use3 - (w64 ((([(1 : Int), (0 : Int), (-1 : Int)] : List Int).getD t43_a.toNat (0 : Int)) * (([(1 : Int), (0 : Int), (-1 : Int)] : List Int).getD t43_a.toNat (0 : Int)))))) o9000_af0).bind fun r3 =>
      cond (!r3.1.isNone) (some (r3.1, r3.2))
      ((R59c_0 a59c a60 a61 N m (Sl59ca laying0 left1 rest2 use3 p4 (w64 (t43_a + (1 : Int))) r3.2))))))
      (some ((none : Option (List Int)), o9000_af0)) := by kernel_rfl
theorem ql59ca (a59c : (List Int) → Int → Int → Int → (List Int) → Option (Option (List Int) × List Int)) (a60 : (Option (List Int)) → Option (Option (List Int))) (a61 : (List Int) → Option (List Int)) (N : Nat) (laying0 : List Int) (left1 : Int) (rest2 : Int) (use3 : Int) (p4 : List Int) : ∀ (m : Nat) (t43_a : Int) (o9000_af0 : List Int), R59c_0 a59c a60 a61 N m (Sl59ca laying0 left1 rest2 use3 p4 t43_a o9000_af0) = l59ca a59c a60 a61 N laying0 left1 rest2 use3 p4 m t43_a o9000_af0
        | 0, _, _ => rfl
        | m + 1, t43_a, o9000_af0 => by rw [wl59ca]; simp only [l59ca, ql59ca a59c a60 a61 N laying0 left1 rest2 use3 p4 m]
def m59c (a59c : (List Int) → Int → Int → Int → (List Int) → Option (Option (List Int) × List Int)) (a60 : (Option (List Int)) → Option (Option (List Int))) (a61 : (List Int) → Option (List Int)) (N : Nat) (laying0 : List Int) (left1 : Int) (rest2 : Int) (use3 : Int) (p4 : List Int) : Option (Option (List Int) × List Int) :=
      cond (decide (use3 < (0 : Int))) (some ((none : Option (List Int)), p4))
      (cond (decide (left1 > rest2)) (some ((none : Option (List Int)), p4))
      (cond (decide (left1 < (w64 (0 - rest2)))) (some ((none : Option (List Int)), p4))
      (cond ((laying0.length : Int) == (p4.length : Int)) (chk ((decide (0 < laying0.length)) && (true)) ((a60 (some laying0)).bind fun r1 =>
      some (r1, p4)))
      (chk (decide (0 ≤ (laying0.length : Int) ∧ (laying0.length : Int) < (p4.length : Int))) ((l59ca a59c a60 a61 N laying0 left1 rest2 use3 p4 N (0 : Int) p4))))))
theorem wm59c (a59c : (List Int) → Int → Int → Int → (List Int) → Option (Option (List Int) × List Int)) (a60 : (Option (List Int)) → Option (Option (List Int))) (a61 : (List Int) → Option (List Int)) (N : Nat) (laying0 : List Int) (left1 : Int) (rest2 : Int) (use3 : Int) (p4 : List Int) : callF (E59c a59c a60 a61) lv59c N en59c c59c (resOf Try.f59) 64 [.dv (.sl (.int .i64)) laying0, .dv (.int .i64) left1, .dv (.int .i64) rest2, .dv (.int .i64) use3, .ptr 9000 0 [0], .ptr 9001 0 [0]] [(9000, .rcd [.dv (.sl (.int .i64)) p4]), (9001, .rcd [.fn 59 0 2 fun i => ([.ptr 9000 0 [0], .ptr 9001 0 [0]] : List TV).getD i .any])] dec59c = cond (decide (use3 < (0 : Int))) (some ((none : Option (List Int)), p4))
      (cond (decide (left1 > rest2)) (some ((none : Option (List Int)), p4))
      (cond (decide (left1 < (w64 (0 - rest2)))) (some ((none : Option (List Int)), p4))
      (cond ((laying0.length : Int) == (p4.length : Int)) (chk ((decide (0 < laying0.length)) && (true)) ((a60 (some laying0)).bind fun r1 =>
      some (r1, p4)))
      (chk (decide (0 ≤ (laying0.length : Int) ∧ (laying0.length : Int) < (p4.length : Int))) ((R59c_0 a59c a60 a61 N N (Sl59ca laying0 left1 rest2 use3 p4 (0 : Int) p4))))))) := by kernel_rfl
theorem k59c (a59c : (List Int) → Int → Int → Int → (List Int) → Option (Option (List Int) × List Int)) (a60 : (Option (List Int)) → Option (Option (List Int))) (a61 : (List Int) → Option (List Int)) (N : Nat) (laying0 : List Int) (left1 : Int) (rest2 : Int) (use3 : Int) (p4 : List Int) : callF (E59c a59c a60 a61) lv59c N en59c c59c (resOf Try.f59) 64 [.dv (.sl (.int .i64)) laying0, .dv (.int .i64) left1, .dv (.int .i64) rest2, .dv (.int .i64) use3, .ptr 9000 0 [0], .ptr 9001 0 [0]] [(9000, .rcd [.dv (.sl (.int .i64)) p4]), (9001, .rcd [.fn 59 0 2 fun i => ([.ptr 9000 0 [0], .ptr 9001 0 [0]] : List TV).getD i .any])] dec59c = m59c a59c a60 a61 N laying0 left1 rest2 use3 p4 := by rw [wm59c]; simp only [m59c, ql59ca]
theorem ok59c (a59c : (List Int) → Int → Int → Int → (List Int) → Option (Option (List Int) × List Int)) (a60 : (Option (List Int)) → Option (Option (List Int))) (a61 : (List Int) → Option (List Int)) (h59c : FnOk Try.prog 59 (F59c a59c)) (h60 : FnOk Try.prog 60 (F60 a60)) (h61 : FnOk Try.prog 61 (F61 a61)) (a : (List Int) → Int → Int → Int → (List Int) → Option (Option (List Int) × List Int)) (h : ∀ laying0 left1 rest2 use3 p4 r, a laying0 left1 rest2 use3 p4 = some r → (∃ N, m59c a59c a60 a61 N laying0 left1 rest2 use3 p4 = some r)) : FnOk Try.prog 59 (F59c a) := by
  intro args Of x hx
  simp only [F59c] at hx
  split at hx
  · rename_i laying0 left1 rest2 use3 p4 f_0 heqc
    have hc0 := congrArg (fun c : List (List TV) => c.getD 0 []) heqc
    obtain ⟨N, hN⟩ := h _ _ _ _ _ _ hx
    refine HSpec.etaL (args := [.dv (.sl (.int .i64)) laying0, .dv (.int .i64) left1, .dv (.int .i64) rest2, .dv (.int .i64) use3, .ptr 9000 0 [0], .ptr 9001 0 [0]]) (O := [(9000, .rcd [.dv (.sl (.int .i64)) p4]), (9001, .rcd [.fn 59 0 2 fun i => ([.ptr 9000 0 [0], .ptr 9001 0 [0]] : List TV).getD i .any])]) ⟨TV.sim_refl _, TV.sim_refl _, TV.sim_refl _, TV.sim_refl _, TV.sim_refl _, TV.sim_refl _, trivial⟩ ⟨rfl, TO.sim_refl _, rfl, TO.sim_rcd ⟨TV.sim_fn hc0, trivial⟩, trivial⟩ (liftedS (L := [(59, F59c a59c), (60, F60 a60), (61, F61 a61)]) (rc := nrc) (fz := nfz) (fn := Try.f59) (by kernel_rfl) (by kernel_rfl) (by kernel_rfl) (by kernel_rfl) rfl ?_ ((k59c a59c a60 a61 N _ _ _ _ _).trans hN) ?_)
    · intro p hp; simp only [List.mem_cons, List.not_mem_nil, or_false] at hp; rcases hp with rfl | rfl | rfl
      · exact h59c
      · exact h60
      · exact h61
    · intro l o hd
      simp only [dec59c] at hd
      split at hd
      · rename_i heqd
        have hd0 := congrArg (fun c : List (List TV) => c.getD 0 []) heqd
        obtain rfl := Option.some.inj hd; exact ⟨rfl, ⟨rfl, TO.sim_refl _, rfl, TO.sim_rcd ⟨TV.sim_symm (TV.sim_fn hd0), trivial⟩, trivial⟩⟩
      · cases hd
  · cases hx
def E27 (a22 : (List Int) → Option (Int)) (a59c : (List Int) → Int → Int → Int → (List Int) → Option (Option (List Int) × List Int)) : Env := mkE TI TY [(22, F22 a22), (59, F59c a59c)] nrc nfz
noncomputable def c27 : Code := bodyOf Try.f27
def nm27_0 : Norm := ⟨[1, 2, 7, 18, 19, 20], [2], [], []⟩
def nm27_1 : Norm := ⟨[1, 7, 10, 31, 32], [10, 2], [], []⟩
def lv27 : Nat → Option Norm := norms [(6, nm27_0), (13, nm27_1)]
def en27 : End := ⟨[(45, .sl (.int .i64))], ⟨[45, 46], [], [], []⟩⟩
def dec27 (l : List TV) (o : List (Nat × TO)) : Option (List Int × Int) := match l, o with | [.dv (.sl (.int .i64)) x0, .dv (.int .i64) x1], [] => some (x0, x1) | _, _ => none
noncomputable def K27_0 (a22 : (List Int) → Option (Int)) (a59c : (List Int) → Int → Int → Int → (List Int) → Option (Option (List Int) × List Int)) (N : Nat) : Kont (List Int × Int) := kont (E27 a22 a59c) lv27 N c27 [1, 1, 1, 0, 1, 0] (fin TI en27 (resOf Try.f27) dec27)
noncomputable def R27_0 (a22 : (List Int) → Option (Int)) (a59c : (List Int) → Int → Int → Int → (List Int) → Option (Option (List Int) × List Int)) (N : Nat) (m : Nat) : TS → Option (List Int × Int) := loopK (den (E27 a22 a59c) lv27 N (sub c27 [1, 1, 1, 0, 1, 0, 0])) (TS.norm nm27_0) (K27_0 a22 a59c N) m
noncomputable def K27_1 (a22 : (List Int) → Option (Int)) (a59c : (List Int) → Int → Int → Int → (List Int) → Option (Option (List Int) × List Int)) (N : Nat) : Kont (List Int × Int) := kont (E27 a22 a59c) lv27 N c27 [1, 1, 1, 1, 1, 1, 0, 1, 0] (fin TI en27 (resOf Try.f27) dec27)
noncomputable def R27_1 (a22 : (List Int) → Option (Int)) (a59c : (List Int) → Int → Int → Int → (List Int) → Option (Option (List Int) × List Int)) (N : Nat) (m : Nat) : TS → Option (List Int × Int) := loopK (den (E27 a22 a59c) lv27 N (sub c27 [1, 1, 1, 1, 1, 1, 0, 1, 0, 0])) (TS.norm nm27_1) (K27_1 a22 a59c N) m
def Sl27b (weights0 : List Int) (load1 : Int) (all7_a : Int) (t32_b : Int) (o2_bf0 : List Int) : TS := ⟨slots 45 [(1, .dv (.int .i64) load1), (7, .dv (.int .i64) all7_a), (10, .ptr 10 0 [0]), (31, .dv (.int .i64) (w64 ((weights0.length : Int) + (1 : Int)))), (32, .dv (.int .i64) t32_b)], [(10, .rcd [.fn 59 0 2 fun i => ([.ptr 2 0 [0], .ptr 10 0 [0]] : List TV).getD i .any]), (2, .rcd [.dv (.sl (.int .i64)) o2_bf0])]⟩
def Sl27a (weights0 : List Int) (load1 : Int) (all7_a : Int) (t20_a : Int) : TS := ⟨slots 45 [(1, .dv (.int .i64) load1), (2, .ptr 2 0 [0]), (7, .dv (.int .i64) all7_a), (18, .dv (.sl (.int .i64)) weights0), (19, .dv (.int .i64) (weights0.length : Int)), (20, .dv (.int .i64) t20_a)], [(2, .rcd [.dv (.sl (.int .i64)) weights0])]⟩
def l27b (a22 : (List Int) → Option (Int)) (a59c : (List Int) → Int → Int → Int → (List Int) → Option (Option (List Int) × List Int)) (N : Nat) (weights0 : List Int) (load1 : Int) (all7_a : Int) : Nat → Int → (List Int) → Option (List Int × Int)
  | 0, _, _ => none
  | n + 1, t32_b, o2_bf0 => cond (decide (t32_b < (w64 ((weights0.length : Int) + (1 : Int))))) ((a59c ([] : List Int) load1 all7_a t32_b o2_bf0).bind fun r2 =>
      cond (!r2.1.isNone) (some (r2.1.getD [], (0 : Int)))
      ((l27b a22 a59c N weights0 load1 all7_a n (w64 (t32_b + (1 : Int))) r2.2)))
      (some (([] : List Int), (14 : Int)))
theorem wl27b (a22 : (List Int) → Option (Int)) (a59c : (List Int) → Int → Int → Int → (List Int) → Option (Option (List Int) × List Int)) (N : Nat) (weights0 : List Int) (load1 : Int) (all7_a : Int) (m : Nat) (t32_b : Int) (o2_bf0 : List Int) : R27_1 a22 a59c N (m + 1) (Sl27b weights0 load1 all7_a t32_b o2_bf0) = cond (decide (t32_b < (w64 ((weights0.length : Int) + (1 : Int))))) ((a59c ([] : List Int) load1 all7_a t32_b o2_bf0).bind fun r2 =>
      cond (!r2.1.isNone) (some (r2.1.getD [], (0 : Int)))
      ((R27_1 a22 a59c N m (Sl27b weights0 load1 all7_a (w64 (t32_b + (1 : Int))) r2.2))))
      (some (([] : List Int), (14 : Int))) := by kernel_rfl
theorem ql27b (a22 : (List Int) → Option (Int)) (a59c : (List Int) → Int → Int → Int → (List Int) → Option (Option (List Int) × List Int)) (N : Nat) (weights0 : List Int) (load1 : Int) (all7_a : Int) : ∀ (m : Nat) (t32_b : Int) (o2_bf0 : List Int), R27_1 a22 a59c N m (Sl27b weights0 load1 all7_a t32_b o2_bf0) = l27b a22 a59c N weights0 load1 all7_a m t32_b o2_bf0
        | 0, _, _ => rfl
        | m + 1, t32_b, o2_bf0 => by rw [wl27b]; simp only [l27b, ql27b a22 a59c N weights0 load1 all7_a m]
def l27a (a22 : (List Int) → Option (Int)) (a59c : (List Int) → Int → Int → Int → (List Int) → Option (Option (List Int) × List Int)) (N : Nat) (weights0 : List Int) (load1 : Int) : Nat → Int → Int → Option (List Int × Int)
  | 0, _, _ => none
  | n + 1, all7_a, t20_a => cond (decide (t20_a < (weights0.length : Int))) (chk (decide (0 ≤ t20_a ∧ t20_a < (weights0.length : Int))) ((l27a a22 a59c N weights0 load1 n (w64 (all7_a + (weights0.getD t20_a.toNat (0 : Int)))) (w64 (t20_a + (1 : Int))))))
      ((l27b a22 a59c N weights0 load1 all7_a N (0 : Int) weights0))
theorem wl27a (a22 : (List Int) → Option (Int)) (a59c : (List Int) → Int → Int → Int → (List Int) → Option (Option (List Int) × List Int)) (N : Nat) (weights0 : List Int) (load1 : Int) (m : Nat) (all7_a : Int) (t20_a : Int) : R27_0 a22 a59c N (m + 1) (Sl27a weights0 load1 all7_a t20_a) = cond (decide (t20_a < (weights0.length : Int))) (chk (decide (0 ≤ t20_a ∧ t20_a < (weights0.length : Int))) ((R27_0 a22 a59c N m (Sl27a weights0 load1 (w64 (all7_a + (weights0.getD t20_a.toNat (0 : Int)))) (w64 (t20_a + (1 : Int)))))))
      ((R27_1 a22 a59c N N (Sl27b weights0 load1 all7_a (0 : Int) weights0))) := by kernel_rfl
theorem ql27a (a22 : (List Int) → Option (Int)) (a59c : (List Int) → Int → Int → Int → (List Int) → Option (Option (List Int) × List Int)) (N : Nat) (weights0 : List Int) (load1 : Int) : ∀ (m : Nat) (all7_a : Int) (t20_a : Int), R27_0 a22 a59c N m (Sl27a weights0 load1 all7_a t20_a) = l27a a22 a59c N weights0 load1 m all7_a t20_a
        | 0, _, _ => rfl
        | m + 1, all7_a, t20_a => by rw [wl27a]; simp only [l27a, ql27b, ql27a a22 a59c N weights0 load1 m]
def m27 (a22 : (List Int) → Option (Int)) (a59c : (List Int) → Int → Int → Int → (List Int) → Option (Option (List Int) × List Int)) (N : Nat) (weights0 : List Int) (load1 : Int) : Option (List Int × Int) :=
      (a22 weights0).bind fun r1 =>
      cond (r1 != (0 : Int)) (some (([] : List Int), r1))
      ((l27a a22 a59c N weights0 load1 N (0 : Int) (0 : Int)))
theorem wm27 (a22 : (List Int) → Option (Int)) (a59c : (List Int) → Int → Int → Int → (List Int) → Option (Option (List Int) × List Int)) (N : Nat) (weights0 : List Int) (load1 : Int) : callF (E27 a22 a59c) lv27 N en27 c27 (resOf Try.f27) 43 [.dv (.sl (.int .i64)) weights0, .dv (.int .i64) load1] [] dec27 = (a22 weights0).bind fun r1 =>
      cond (r1 != (0 : Int)) (some (([] : List Int), r1))
      ((R27_0 a22 a59c N N (Sl27a weights0 load1 (0 : Int) (0 : Int)))) := by kernel_rfl
theorem k27 (a22 : (List Int) → Option (Int)) (a59c : (List Int) → Int → Int → Int → (List Int) → Option (Option (List Int) × List Int)) (N : Nat) (weights0 : List Int) (load1 : Int) : callF (E27 a22 a59c) lv27 N en27 c27 (resOf Try.f27) 43 [.dv (.sl (.int .i64)) weights0, .dv (.int .i64) load1] [] dec27 = m27 a22 a59c N weights0 load1 := by rw [wm27]; simp only [m27, ql27a]
theorem ok27 (a22 : (List Int) → Option (Int)) (a59c : (List Int) → Int → Int → Int → (List Int) → Option (Option (List Int) × List Int)) (h22 : FnOk Try.prog 22 (F22 a22)) (h59c : FnOk Try.prog 59 (F59c a59c)) (a : (List Int) → Int → Option (List Int × Int)) (h : ∀ weights0 load1 r, a weights0 load1 = some r → (∃ N, m27 a22 a59c N weights0 load1 = some r)) : FnOk Try.prog 27 (F27 a) := by
  intro args Of x hx
  simp only [F27] at hx
  split at hx
  · rename_i weights0 load1
    obtain ⟨N, hN⟩ := h _ _ _ hx
    refine lifted (L := [(22, F22 a22), (59, F59c a59c)]) (rc := nrc) (fz := nfz) (fn := Try.f27) (by kernel_rfl) (by kernel_rfl) (by kernel_rfl) (by kernel_rfl) rfl ?_ ((k27 a22 a59c N _ _).trans hN) ?_
    · intro p hp; simp only [List.mem_cons, List.not_mem_nil, or_false] at hp; rcases hp with rfl | rfl
      · exact h22
      · exact h59c
    · intro l o hd
      simp only [dec27] at hd
      split at hd
      · obtain rfl := Option.some.inj hd; exact ⟨rfl, rfl⟩
      · cases hd
  · cases hx
def E65 (a57 : Int → Int → Int → Option (Bool)) : Env := mkE TI TY [(57, F57 a57)] nrc nfz
noncomputable def c65 : Code := bodyOf Try.f65
def lv65 : Nat → Option Norm := norms []
def en65 : End := ⟨[], ⟨[6], [], [], []⟩⟩
def dec65 (l : List TV) (o : List (Nat × TO)) : Option (Bool) := match l, o with | [.dv (.bool) x0], [] => some (x0) | _, _ => none
def m65 (a57 : Int → Int → Int → Option (Bool)) (N : Nat) (n0 : Int) : Option (Bool) :=
      (a57 (-1 : Int) n0 (1 : Int)).bind fun r1 =>
      some (!r1)
theorem k65 (a57 : Int → Int → Int → Option (Bool)) (N : Nat) (n0 : Int) : callF (E65 a57) lv65 N en65 c65 (resOf Try.f65) 5 [.dv (.int .i64) n0] [] dec65 = m65 a57 N n0 := by kernel_rfl
theorem ok65 (a57 : Int → Int → Int → Option (Bool)) (h57 : FnOk Try.prog 57 (F57 a57)) (a : Int → Option (Bool)) (h : ∀ n0 r, a n0 = some r → (∃ N, m65 a57 N n0 = some r)) : FnOk Try.prog 65 (F65 a) := by
  intro args Of x hx
  simp only [F65] at hx
  split at hx
  · rename_i n0
    obtain ⟨N, hN⟩ := h _ _ hx
    refine lifted (L := [(57, F57 a57)]) (rc := nrc) (fz := nfz) (fn := Try.f65) (by kernel_rfl) (by kernel_rfl) (by kernel_rfl) (by kernel_rfl) rfl ?_ ((k65 a57 N _).trans hN) ?_
    · intro p hp; simp only [List.mem_cons, List.not_mem_nil, or_false] at hp; rcases hp with rfl; exact h57
    · intro l o hd
      simp only [dec65] at hd
      split at hd
      · obtain rfl := Option.some.inj hd; exact ⟨rfl, rfl⟩
      · cases hd
  · cases hx
def E80c65 (a65 : Int → Option (Bool)) : Env := mkE TI TY [(65, F65 a65)] nrc nfz
noncomputable def c80c65 : Code := bodyOf Try.f80
def nm80c65_0 : Norm := ⟨[0, 1, 7, 8], [], [], []⟩
def lv80c65 : Nat → Option Norm := norms [(2, nm80c65_0)]
def en80c65 : End := ⟨[], ⟨[19], [], [], []⟩⟩
def dec80c65 (l : List TV) (o : List (Nat × TO)) : Option (Int) := match l, o with | [.dv (.int .i64) x0], [] => some (x0) | _, _ => none
noncomputable def K80c65_0 (a65 : Int → Option (Bool)) (N : Nat) : Kont (Int) := kont (E80c65 a65) lv80c65 N c80c65 [1, 0, 1, 0] (fin TI en80c65 (resOf Try.f80) dec80c65)
noncomputable def R80c65_0 (a65 : Int → Option (Bool)) (N : Nat) (m : Nat) : TS → Option (Int) := loopK (den (E80c65 a65) lv80c65 N (sub c80c65 [1, 0, 1, 0, 0])) (TS.norm nm80c65_0) (K80c65_0 a65 N) m
def Sl80c65a (s0 : List Int) (t8_a : Int) : TS := ⟨slots 19 [(0, .dv (.sl (.int .i64)) s0), (1, .fn 65 0 0 fun i => ([] : List TV).getD i .any), (7, .dv (.int .i64) (s0.length : Int)), (8, .dv (.int .i64) t8_a)], []⟩
def l80c65a (a65 : Int → Option (Bool)) (N : Nat) (s0 : List Int) : Nat → Int → Option (Int)
  | 0, _ => none
  | n + 1, t8_a => cond (decide (t8_a < (s0.length : Int))) (chk (decide (0 ≤ t8_a ∧ t8_a < (s0.length : Int))) ((a65 (s0.getD t8_a.toNat (0 : Int))).bind fun r1 =>
      cond (r1) (some t8_a)
      ((l80c65a a65 N s0 n (w64 (t8_a + (1 : Int)))))))
      (some (-1 : Int))
theorem wl80c65a (a65 : Int → Option (Bool)) (N : Nat) (s0 : List Int) (m : Nat) (t8_a : Int) : R80c65_0 a65 N (m + 1) (Sl80c65a s0 t8_a) = cond (decide (t8_a < (s0.length : Int))) (chk (decide (0 ≤ t8_a ∧ t8_a < (s0.length : Int))) ((a65 (s0.getD t8_a.toNat (0 : Int))).bind fun r1 =>
      cond (r1) (some t8_a)
      ((R80c65_0 a65 N m (Sl80c65a s0 (w64 (t8_a + (1 : Int))))))))
      (some (-1 : Int)) := by kernel_rfl
theorem ql80c65a (a65 : Int → Option (Bool)) (N : Nat) (s0 : List Int) : ∀ (m : Nat) (t8_a : Int), R80c65_0 a65 N m (Sl80c65a s0 t8_a) = l80c65a a65 N s0 m t8_a
        | 0, _ => rfl
        | m + 1, t8_a => by rw [wl80c65a]; simp only [l80c65a, ql80c65a a65 N s0 m]
def m80c65 (a65 : Int → Option (Bool)) (N : Nat) (s0 : List Int) : Option (Int) :=
      (l80c65a a65 N s0 N (0 : Int))
theorem wm80c65 (a65 : Int → Option (Bool)) (N : Nat) (s0 : List Int) : callF (E80c65 a65) lv80c65 N en80c65 c80c65 (resOf Try.f80) 17 [.dv (.sl (.int .i64)) s0, .fn 65 0 0 fun i => ([] : List TV).getD i .any] [] dec80c65 = (R80c65_0 a65 N N (Sl80c65a s0 (0 : Int))) := by kernel_rfl
theorem k80c65 (a65 : Int → Option (Bool)) (N : Nat) (s0 : List Int) : callF (E80c65 a65) lv80c65 N en80c65 c80c65 (resOf Try.f80) 17 [.dv (.sl (.int .i64)) s0, .fn 65 0 0 fun i => ([] : List TV).getD i .any] [] dec80c65 = m80c65 a65 N s0 := by rw [wm80c65]; simp only [m80c65, ql80c65a]
theorem ok80c65 (a65 : Int → Option (Bool)) (h65 : FnOk Try.prog 65 (F65 a65)) (a : (List Int) → Option (Int)) (h : ∀ s0 r, a s0 = some r → (∃ N, m80c65 a65 N s0 = some r)) : FnOk Try.prog 80 (F80c65 a) := by
  intro args Of x hx
  simp only [F80c65] at hx
  split at hx
  · rename_i s0 f_0 heqc
    have hc0 := congrArg (fun c : List (List TV) => c.getD 0 []) heqc
    obtain ⟨N, hN⟩ := h _ _ hx
    refine HSpec.etaL (args := [.dv (.sl (.int .i64)) s0, .fn 65 0 0 fun i => ([] : List TV).getD i .any]) (O := []) ⟨TV.sim_refl _, TV.sim_fn hc0, trivial⟩ trivial (lifted (L := [(65, F65 a65)]) (rc := nrc) (fz := nfz) (fn := Try.f80) (by kernel_rfl) (by kernel_rfl) (by kernel_rfl) (by kernel_rfl) rfl ?_ ((k80c65 a65 N _).trans hN) ?_)
    · intro p hp; simp only [List.mem_cons, List.not_mem_nil, or_false] at hp; rcases hp with rfl; exact h65
    · intro l o hd
      simp only [dec80c65] at hd
      split at hd
      · obtain rfl := Option.some.inj hd; exact ⟨rfl, rfl⟩
      · cases hd
  · cases hx
def E64c65 (a80c65 : (List Int) → Option (Int)) : Env := mkE TI TY [(80, F80c65 a80c65)] nrc nfz
noncomputable def c64c65 : Code := bodyOf Try.f64
def lv64c65 : Nat → Option Norm := norms []
def en64c65 : End := ⟨[], ⟨[9], [], [], []⟩⟩
def dec64c65 (l : List TV) (o : List (Nat × TO)) : Option (Bool) := match l, o with | [.dv (.bool) x0], [] => some (x0) | _, _ => none
def m64c65 (a80c65 : (List Int) → Option (Int)) (N : Nat) (s0 : List Int) : Option (Bool) :=
      (a80c65 s0).bind fun r1 =>
      some (decide (r1 ≥ (0 : Int)))
theorem k64c65 (a80c65 : (List Int) → Option (Int)) (N : Nat) (s0 : List Int) : callF (E64c65 a80c65) lv64c65 N en64c65 c64c65 (resOf Try.f64) 7 [.dv (.sl (.int .i64)) s0, .fn 65 0 0 fun i => ([] : List TV).getD i .any] [] dec64c65 = m64c65 a80c65 N s0 := by kernel_rfl
theorem ok64c65 (a80c65 : (List Int) → Option (Int)) (h80c65 : FnOk Try.prog 80 (F80c65 a80c65)) (a : (List Int) → Option (Bool)) (h : ∀ s0 r, a s0 = some r → (∃ N, m64c65 a80c65 N s0 = some r)) : FnOk Try.prog 64 (F64c65 a) := by
  intro args Of x hx
  simp only [F64c65] at hx
  split at hx
  · rename_i s0 f_0 heqc
    have hc0 := congrArg (fun c : List (List TV) => c.getD 0 []) heqc
    obtain ⟨N, hN⟩ := h _ _ hx
    refine HSpec.etaL (args := [.dv (.sl (.int .i64)) s0, .fn 65 0 0 fun i => ([] : List TV).getD i .any]) (O := []) ⟨TV.sim_refl _, TV.sim_fn hc0, trivial⟩ trivial (lifted (L := [(80, F80c65 a80c65)]) (rc := nrc) (fz := nfz) (fn := Try.f64) (by kernel_rfl) (by kernel_rfl) (by kernel_rfl) (by kernel_rfl) rfl ?_ ((k64c65 a80c65 N _).trans hN) ?_)
    · intro p hp; simp only [List.mem_cons, List.not_mem_nil, or_false] at hp; rcases hp with rfl; exact h80c65
    · intro l o hd
      simp only [dec64c65] at hd
      split at hd
      · obtain rfl := Option.some.inj hd; exact ⟨rfl, rfl⟩
      · cases hd
  · cases hx
def E29 (a22 : (List Int) → Option (Int)) (a64c65 : (List Int) → Option (Bool)) : Env := mkE TI TY [(22, F22 a22), (64, F64c65 a64c65)] nrc nfz
noncomputable def c29 : Code := bodyOf Try.f29
def nm29_0 : Norm := ⟨[0, 2, 26, 27, 28], [], [], []⟩
def lv29 : Nat → Option Norm := norms [(7, nm29_0)]
def en29 : End := ⟨[], ⟨[44], [], [], []⟩⟩
def dec29 (l : List TV) (o : List (Nat × TO)) : Option (Int) := match l, o with | [.dv (.int .i64) x0], [] => some (x0) | _, _ => none
noncomputable def K29_0 (a22 : (List Int) → Option (Int)) (a64c65 : (List Int) → Option (Bool)) (N : Nat) : Kont (Int) := kont (E29 a22 a64c65) lv29 N c29 [1, 1, 1, 0, 1, 0] (fin TI en29 (resOf Try.f29) dec29)
noncomputable def R29_0 (a22 : (List Int) → Option (Int)) (a64c65 : (List Int) → Option (Bool)) (N : Nat) (m : Nat) : TS → Option (Int) := loopK (den (E29 a22 a64c65) lv29 N (sub c29 [1, 1, 1, 0, 1, 0, 0])) (TS.norm nm29_0) (K29_0 a22 a64c65 N) m
def Sl29a (weights0 : List Int) (laying1 : List Int) (load2_a : Int) (t28_a : Int) : TS := ⟨slots 44 [(0, .dv (.sl (.int .i64)) weights0), (2, .dv (.int .i64) load2_a), (26, .dv (.sl (.int .i64)) laying1), (27, .dv (.int .i64) (laying1.length : Int)), (28, .dv (.int .i64) t28_a)], []⟩
def l29a (a22 : (List Int) → Option (Int)) (a64c65 : (List Int) → Option (Bool)) (N : Nat) (weights0 : List Int) (laying1 : List Int) : Nat → Int → Int → Option (Int)
  | 0, _, _ => none
  | n + 1, load2_a, t28_a => cond (decide (t28_a < (laying1.length : Int))) (chk (decide (0 ≤ t28_a ∧ t28_a < (laying1.length : Int))) (chk (decide (0 ≤ t28_a ∧ t28_a < (weights0.length : Int))) ((l29a a22 a64c65 N weights0 laying1 n (w64 (load2_a - (w64 ((laying1.getD t28_a.toNat (0 : Int)) * (weights0.getD t28_a.toNat (0 : Int)))))) (w64 (t28_a + (1 : Int)))))))
      (cond (load2_a != (0 : Int)) (some (13 : Int))
      (some (0 : Int)))
theorem wl29a (a22 : (List Int) → Option (Int)) (a64c65 : (List Int) → Option (Bool)) (N : Nat) (weights0 : List Int) (laying1 : List Int) (m : Nat) (load2_a : Int) (t28_a : Int) : R29_0 a22 a64c65 N (m + 1) (Sl29a weights0 laying1 load2_a t28_a) = cond (decide (t28_a < (laying1.length : Int))) (chk (decide (0 ≤ t28_a ∧ t28_a < (laying1.length : Int))) (chk (decide (0 ≤ t28_a ∧ t28_a < (weights0.length : Int))) ((R29_0 a22 a64c65 N m (Sl29a weights0 laying1 (w64 (load2_a - (w64 ((laying1.getD t28_a.toNat (0 : Int)) * (weights0.getD t28_a.toNat (0 : Int)))))) (w64 (t28_a + (1 : Int))))))))
      (cond (load2_a != (0 : Int)) (some (13 : Int))
      (some (0 : Int))) := by kernel_rfl
theorem ql29a (a22 : (List Int) → Option (Int)) (a64c65 : (List Int) → Option (Bool)) (N : Nat) (weights0 : List Int) (laying1 : List Int) : ∀ (m : Nat) (load2_a : Int) (t28_a : Int), R29_0 a22 a64c65 N m (Sl29a weights0 laying1 load2_a t28_a) = l29a a22 a64c65 N weights0 laying1 m load2_a t28_a
        | 0, _, _ => rfl
        | m + 1, load2_a, t28_a => by rw [wl29a]; simp only [l29a, ql29a a22 a64c65 N weights0 laying1 m]
def m29 (a22 : (List Int) → Option (Int)) (a64c65 : (List Int) → Option (Bool)) (N : Nat) (weights0 : List Int) (laying1 : List Int) (load2 : Int) : Option (Int) :=
      (a22 weights0).bind fun r1 =>
      cond (r1 != (0 : Int)) (some r1)
      (cond ((laying1.length : Int) != (weights0.length : Int)) (some (9 : Int))
      ((a64c65 laying1).bind fun r2 =>
      cond (r2) (some (9 : Int))
      ((l29a a22 a64c65 N weights0 laying1 N load2 (0 : Int)))))
theorem wm29 (a22 : (List Int) → Option (Int)) (a64c65 : (List Int) → Option (Bool)) (N : Nat) (weights0 : List Int) (laying1 : List Int) (load2 : Int) : callF (E29 a22 a64c65) lv29 N en29 c29 (resOf Try.f29) 41 [.dv (.sl (.int .i64)) weights0, .dv (.sl (.int .i64)) laying1, .dv (.int .i64) load2] [] dec29 = (a22 weights0).bind fun r1 =>
      cond (r1 != (0 : Int)) (some r1)
      (cond ((laying1.length : Int) != (weights0.length : Int)) (some (9 : Int))
      ((a64c65 laying1).bind fun r2 =>
      cond (r2) (some (9 : Int))
      ((R29_0 a22 a64c65 N N (Sl29a weights0 laying1 load2 (0 : Int)))))) := by kernel_rfl
theorem k29 (a22 : (List Int) → Option (Int)) (a64c65 : (List Int) → Option (Bool)) (N : Nat) (weights0 : List Int) (laying1 : List Int) (load2 : Int) : callF (E29 a22 a64c65) lv29 N en29 c29 (resOf Try.f29) 41 [.dv (.sl (.int .i64)) weights0, .dv (.sl (.int .i64)) laying1, .dv (.int .i64) load2] [] dec29 = m29 a22 a64c65 N weights0 laying1 load2 := by rw [wm29]; simp only [m29, ql29a]
theorem ok29 (a22 : (List Int) → Option (Int)) (a64c65 : (List Int) → Option (Bool)) (h22 : FnOk Try.prog 22 (F22 a22)) (h64c65 : FnOk Try.prog 64 (F64c65 a64c65)) (a : (List Int) → (List Int) → Int → Option (Int)) (h : ∀ weights0 laying1 load2 r, a weights0 laying1 load2 = some r → (∃ N, m29 a22 a64c65 N weights0 laying1 load2 = some r)) : FnOk Try.prog 29 (F29 a) := by
  intro args Of x hx
  simp only [F29] at hx
  split at hx
  · rename_i weights0 laying1 load2
    obtain ⟨N, hN⟩ := h _ _ _ _ hx
    refine lifted (L := [(22, F22 a22), (64, F64c65 a64c65)]) (rc := nrc) (fz := nfz) (fn := Try.f29) (by kernel_rfl) (by kernel_rfl) (by kernel_rfl) (by kernel_rfl) rfl ?_ ((k29 a22 a64c65 N _ _ _).trans hN) ?_
    · intro p hp; simp only [List.mem_cons, List.not_mem_nil, or_false] at hp; rcases hp with rfl | rfl
      · exact h22
      · exact h64c65
    · intro l o hd
      simp only [dec29] at hd
      split at hd
      · obtain rfl := Option.some.inj hd; exact ⟨rfl, rfl⟩
      · cases hd
  · cases hx
def E85 : Env := mkE TI TY [] nrc nfz
noncomputable def c85 : Code := bodyOf Try.f85
def nm85_0 : Norm := ⟨[0, 1, 7, 8], [], [], []⟩
def lv85 : Nat → Option Norm := norms [(2, nm85_0)]
def en85 : End := ⟨[], ⟨[19], [], [], []⟩⟩
def dec85 (l : List TV) (o : List (Nat × TO)) : Option (Int) := match l, o with | [.dv (.int .i64) x0], [] => some (x0) | _, _ => none
noncomputable def K85_0 (N : Nat) : Kont (Int) := kont (E85) lv85 N c85 [1, 0, 1, 0] (fin TI en85 (resOf Try.f85) dec85)
noncomputable def R85_0 (N : Nat) (m : Nat) : TS → Option (Int) := loopK (den (E85) lv85 N (sub c85 [1, 0, 1, 0, 0])) (TS.norm nm85_0) (K85_0 N) m
def Sl85a (s0 : List Int) (v1 : Int) (t8_a : Int) : TS := ⟨slots 19 [(0, .dv (.sl (.int .i64)) s0), (1, .dv (.int .i64) v1), (7, .dv (.int .i64) (s0.length : Int)), (8, .dv (.int .i64) t8_a)], []⟩
def l85a (N : Nat) (s0 : List Int) (v1 : Int) : Nat → Int → Option (Int)
  | 0, _ => none
  | n + 1, t8_a => cond (decide (t8_a < (s0.length : Int))) (chk (decide (0 ≤ t8_a ∧ t8_a < (s0.length : Int))) (cond (v1 == (s0.getD t8_a.toNat (0 : Int))) (some t8_a)
      ((l85a N s0 v1 n (w64 (t8_a + (1 : Int)))))))
      (some (-1 : Int))
theorem wl85a (N : Nat) (s0 : List Int) (v1 : Int) (m : Nat) (t8_a : Int) : R85_0 N (m + 1) (Sl85a s0 v1 t8_a) = cond (decide (t8_a < (s0.length : Int))) (chk (decide (0 ≤ t8_a ∧ t8_a < (s0.length : Int))) (cond (v1 == (s0.getD t8_a.toNat (0 : Int))) (some t8_a)
      ((R85_0 N m (Sl85a s0 v1 (w64 (t8_a + (1 : Int))))))))
      (some (-1 : Int)) := by kernel_rfl
theorem ql85a (N : Nat) (s0 : List Int) (v1 : Int) : ∀ (m : Nat) (t8_a : Int), R85_0 N m (Sl85a s0 v1 t8_a) = l85a N s0 v1 m t8_a
        | 0, _ => rfl
        | m + 1, t8_a => by rw [wl85a]; simp only [l85a, ql85a N s0 v1 m]
def m85 (N : Nat) (s0 : List Int) (v1 : Int) : Option (Int) :=
      (l85a N s0 v1 N (0 : Int))
theorem wm85 (N : Nat) (s0 : List Int) (v1 : Int) : callF (E85) lv85 N en85 c85 (resOf Try.f85) 17 [.dv (.sl (.int .i64)) s0, .dv (.int .i64) v1] [] dec85 = (R85_0 N N (Sl85a s0 v1 (0 : Int))) := by kernel_rfl
theorem k85 (N : Nat) (s0 : List Int) (v1 : Int) : callF (E85) lv85 N en85 c85 (resOf Try.f85) 17 [.dv (.sl (.int .i64)) s0, .dv (.int .i64) v1] [] dec85 = m85 N s0 v1 := by rw [wm85]; simp only [m85, ql85a]
theorem ok85 (a : (List Int) → Int → Option (Int)) (h : ∀ s0 v1 r, a s0 v1 = some r → (∃ N, m85 N s0 v1 = some r)) : FnOk Try.prog 85 (F85 a) := by
  intro args Of x hx
  simp only [F85] at hx
  split at hx
  · rename_i s0 v1
    obtain ⟨N, hN⟩ := h _ _ _ hx
    refine lifted (L := []) (rc := nrc) (fz := nfz) (fn := Try.f85) (by kernel_rfl) (by kernel_rfl) (by kernel_rfl) (by kernel_rfl) rfl ?_ ((k85 N _ _).trans hN) ?_
    · intro p hp; cases hp
    · intro l o hd
      simp only [dec85] at hd
      split at hd
      · obtain rfl := Option.some.inj hd; exact ⟨rfl, rfl⟩
      · cases hd
  · cases hx
def E82 (a85 : (List Int) → Int → Option (Int)) : Env := mkE TI TY [(85, F85 a85)] nrc nfz
noncomputable def c82 : Code := bodyOf Try.f82
def lv82 : Nat → Option Norm := norms []
def en82 : End := ⟨[], ⟨[9], [], [], []⟩⟩
def dec82 (l : List TV) (o : List (Nat × TO)) : Option (Bool) := match l, o with | [.dv (.bool) x0], [] => some (x0) | _, _ => none
def m82 (a85 : (List Int) → Int → Option (Int)) (N : Nat) (s0 : List Int) (v1 : Int) : Option (Bool) :=
      (a85 s0 v1).bind fun r1 =>
      some (decide (r1 ≥ (0 : Int)))
theorem k82 (a85 : (List Int) → Int → Option (Int)) (N : Nat) (s0 : List Int) (v1 : Int) : callF (E82 a85) lv82 N en82 c82 (resOf Try.f82) 7 [.dv (.sl (.int .i64)) s0, .dv (.int .i64) v1] [] dec82 = m82 a85 N s0 v1 := by kernel_rfl
theorem ok82 (a85 : (List Int) → Int → Option (Int)) (h85 : FnOk Try.prog 85 (F85 a85)) (a : (List Int) → Int → Option (Bool)) (h : ∀ s0 v1 r, a s0 v1 = some r → (∃ N, m82 a85 N s0 v1 = some r)) : FnOk Try.prog 82 (F82 a) := by
  intro args Of x hx
  simp only [F82] at hx
  split at hx
  · rename_i s0 v1
    obtain ⟨N, hN⟩ := h _ _ _ hx
    refine lifted (L := [(85, F85 a85)]) (rc := nrc) (fz := nfz) (fn := Try.f82) (by kernel_rfl) (by kernel_rfl) (by kernel_rfl) (by kernel_rfl) rfl ?_ ((k82 a85 N _ _).trans hN) ?_
    · intro p hp; simp only [List.mem_cons, List.not_mem_nil, or_false] at hp; rcases hp with rfl; exact h85
    · intro l o hd
      simp only [dec82] at hd
      split at hd
      · obtain rfl := Option.some.inj hd; exact ⟨rfl, rfl⟩
      · cases hd
  · cases hx
def E68 (a82 : (List Int) → Int → Option (Bool)) : Env := mkE TI TY [(82, F82 a82)] nrc nfz
noncomputable def c68 : Code := bodyOf Try.f68
def nm68_0 : Norm := ⟨[0, 5, 8, 9, 10], [], [], []⟩
def lv68 : Nat → Option Norm := norms [(3, nm68_0)]
def en68 : End := ⟨[], ⟨[21], [], [], []⟩⟩
def dec68 (l : List TV) (o : List (Nat × TO)) : Option (Int) := match l, o with | [.dv (.int .i64) x0], [] => some (x0) | _, _ => none
noncomputable def K68_0 (a82 : (List Int) → Int → Option (Bool)) (N : Nat) : Kont (Int) := kont (E68 a82) lv68 N c68 [1, 1, 0, 1, 0] (fin TI en68 (resOf Try.f68) dec68)
noncomputable def R68_0 (a82 : (List Int) → Int → Option (Bool)) (N : Nat) (m : Nat) : TS → Option (Int) := loopK (den (E68 a82) lv68 N (sub c68 [1, 1, 0, 1, 0, 0])) (TS.norm nm68_0) (K68_0 a82 N) m
def Sl68a (stone0 : Int) (lists1 : List (List Int)) (n5_a : Int) (t10_a : Int) : TS := ⟨slots 21 [(0, .dv (.int .i64) stone0), (5, .dv (.int .i64) n5_a), (8, .dv (.sl (.sl (.int .i64))) lists1), (9, .dv (.int .i64) (lists1.length : Int)), (10, .dv (.int .i64) t10_a)], []⟩
def l68a (a82 : (List Int) → Int → Option (Bool)) (N : Nat) (stone0 : Int) (lists1 : List (List Int)) : Nat → Int → Int → Option (Int)
  | 0, _, _ => none
  | n + 1, n5_a, t10_a => cond (decide (t10_a < (lists1.length : Int))) (chk (decide (0 ≤ t10_a ∧ t10_a < (lists1.length : Int))) ((a82 (lists1.getD t10_a.toNat ([] : List Int)) stone0).bind fun r1 =>
      cond (r1) ((l68a a82 N stone0 lists1 n (w64 (n5_a + (1 : Int))) (w64 (t10_a + (1 : Int)))))
      ((l68a a82 N stone0 lists1 n n5_a (w64 (t10_a + (1 : Int)))))))
      (some n5_a)
theorem wl68a (a82 : (List Int) → Int → Option (Bool)) (N : Nat) (stone0 : Int) (lists1 : List (List Int)) (m : Nat) (n5_a : Int) (t10_a : Int) : R68_0 a82 N (m + 1) (Sl68a stone0 lists1 n5_a t10_a) = cond (decide (t10_a < (lists1.length : Int))) (chk (decide (0 ≤ t10_a ∧ t10_a < (lists1.length : Int))) ((a82 (lists1.getD t10_a.toNat ([] : List Int)) stone0).bind fun r1 =>
      cond (r1) ((R68_0 a82 N m (Sl68a stone0 lists1 (w64 (n5_a + (1 : Int))) (w64 (t10_a + (1 : Int))))))
      ((R68_0 a82 N m (Sl68a stone0 lists1 n5_a (w64 (t10_a + (1 : Int))))))))
      (some n5_a) := by kernel_rfl
theorem ql68a (a82 : (List Int) → Int → Option (Bool)) (N : Nat) (stone0 : Int) (lists1 : List (List Int)) : ∀ (m : Nat) (n5_a : Int) (t10_a : Int), R68_0 a82 N m (Sl68a stone0 lists1 n5_a t10_a) = l68a a82 N stone0 lists1 m n5_a t10_a
        | 0, _, _ => rfl
        | m + 1, n5_a, t10_a => by rw [wl68a]; simp only [l68a, ql68a a82 N stone0 lists1 m]
def m68 (a82 : (List Int) → Int → Option (Bool)) (N : Nat) (stone0 : Int) (lists1 : List (List Int)) : Option (Int) :=
      (l68a a82 N stone0 lists1 N (0 : Int) (0 : Int))
theorem wm68 (a82 : (List Int) → Int → Option (Bool)) (N : Nat) (stone0 : Int) (lists1 : List (List Int)) : callF (E68 a82) lv68 N en68 c68 (resOf Try.f68) 19 [.dv (.int .i64) stone0, .dv (.sl (.sl (.int .i64))) lists1] [] dec68 = (R68_0 a82 N N (Sl68a stone0 lists1 (0 : Int) (0 : Int))) := by kernel_rfl
theorem k68 (a82 : (List Int) → Int → Option (Bool)) (N : Nat) (stone0 : Int) (lists1 : List (List Int)) : callF (E68 a82) lv68 N en68 c68 (resOf Try.f68) 19 [.dv (.int .i64) stone0, .dv (.sl (.sl (.int .i64))) lists1] [] dec68 = m68 a82 N stone0 lists1 := by rw [wm68]; simp only [m68, ql68a]
theorem ok68 (a82 : (List Int) → Int → Option (Bool)) (h82 : FnOk Try.prog 82 (F82 a82)) (a : Int → (List (List Int)) → Option (Int)) (h : ∀ stone0 lists1 r, a stone0 lists1 = some r → (∃ N, m68 a82 N stone0 lists1 = some r)) : FnOk Try.prog 68 (F68 a) := by
  intro args Of x hx
  simp only [F68] at hx
  split at hx
  · rename_i stone0 lists1
    obtain ⟨N, hN⟩ := h _ _ _ hx
    refine lifted (L := [(82, F82 a82)]) (rc := nrc) (fz := nfz) (fn := Try.f68) (by kernel_rfl) (by kernel_rfl) (by kernel_rfl) (by kernel_rfl) rfl ?_ ((k68 a82 N _ _).trans hN) ?_
    · intro p hp; simp only [List.mem_cons, List.not_mem_nil, or_false] at hp; rcases hp with rfl; exact h82
    · intro l o hd
      simp only [dec68] at hd
      split at hd
      · obtain rfl := Option.some.inj hd; exact ⟨rfl, rfl⟩
      · cases hd
  · cases hx
def E35 (a57 : Int → Int → Int → Option (Bool)) (a68 : Int → (List (List Int)) → Option (Int)) : Env := mkE TI TY [(57, F57 a57), (68, F68 a68)] nrc nfz
noncomputable def c35 : Code := bodyOf Try.f35
def nm35_0 : Norm := ⟨[0, 20, 21, 22], [], [], []⟩
def nm35_1 : Norm := ⟨[0, 6, 20, 21, 22, 49, 50, 51], [6, 49], [], []⟩
def nm35_2 : Norm := ⟨[0, 6, 7, 9, 20, 21, 22, 49, 50, 51, 56, 57, 58], [6, 49], [], []⟩
def lv35 : Nat → Option Norm := norms [(6, nm35_0), (13, nm35_1), (17, nm35_2)]
def en35 : End := ⟨[], ⟨[89], [], [], []⟩⟩
def dec35 (l : List TV) (o : List (Nat × TO)) : Option (Int) := match l, o with | [.dv (.int .i64) x0], [] => some (x0) | _, _ => none
noncomputable def K35_0 (a57 : Int → Int → Int → Option (Bool)) (a68 : Int → (List (List Int)) → Option (Int)) (N : Nat) : Kont (Int) := kont (E35 a57 a68) lv35 N c35 [1, 1, 0, 1, 0] (fin TI en35 (resOf Try.f35) dec35)
noncomputable def R35_0 (a57 : Int → Int → Int → Option (Bool)) (a68 : Int → (List (List Int)) → Option (Int)) (N : Nat) (m : Nat) : TS → Option (Int) := loopK (den (E35 a57 a68) lv35 N (sub c35 [1, 1, 0, 1, 0, 0])) (TS.norm nm35_0) (K35_0 a57 a68 N) m
noncomputable def K35_1 (a57 : Int → Int → Int → Option (Bool)) (a68 : Int → (List (List Int)) → Option (Int)) (N : Nat) (T35_0 : TS → Option (Int)) : Kont (Int) := kont (E35 a57 a68) lv35 N (sub c35 [1, 1, 0, 1, 0, 0]) [1, 1, 0, 0, 1, 1, 1, 0] (kloop (TS.norm nm35_0) (K35_0 a57 a68 N) T35_0)
noncomputable def R35_1 (a57 : Int → Int → Int → Option (Bool)) (a68 : Int → (List (List Int)) → Option (Int)) (N : Nat) (T35_0 : TS → Option (Int)) (m : Nat) : TS → Option (Int) := loopK (den (E35 a57 a68) lv35 N (sub c35 [1, 1, 0, 1, 0, 0, 1, 1, 0, 0, 1, 1, 1, 0, 0])) (TS.norm nm35_1) (K35_1 a57 a68 N T35_0) m
noncomputable def K35_2 (a57 : Int → Int → Int → Option (Bool)) (a68 : Int → (List (List Int)) → Option (Int)) (N : Nat) (T35_0 : TS → Option (Int)) (T35_1 : TS → Option (Int)) : Kont (Int) := kont (E35 a57 a68) lv35 N (sub c35 [1, 1, 0, 1, 0, 0, 1, 1, 0, 0, 1, 1, 1, 0, 0]) [1, 1, 0, 0, 1, 1, 1, 0] (kloop (TS.norm nm35_1) (K35_1 a57 a68 N T35_0) T35_1)
noncomputable def R35_2 (a57 : Int → Int → Int → Option (Bool)) (a68 : Int → (List (List Int)) → Option (Int)) (N : Nat) (T35_0 : TS → Option (Int)) (T35_1 : TS → Option (Int)) (m : Nat) : TS → Option (Int) := loopK (den (E35 a57 a68) lv35 N (sub c35 [1, 1, 0, 1, 0, 0, 1, 1, 0, 0, 1, 1, 1, 0, 0, 1, 1, 0, 0, 1, 1, 1, 0, 0])) (TS.norm nm35_2) (K35_2 a57 a68 N T35_0 T35_1) m
def Sl35c (stones0 : Int) (plan1 : List (List Int × List Int × Unit)) (t22_a : Int) (t51_b : Int) (last9_c : Int) (t58_c : Int) : TS := ⟨slots 89 [(0, .dv (.int .i64) stones0), (6, .ptr 6 0 []), (7, .dv (.int .i64) t51_b), (9, .dv (.int .i64) last9_c), (20, .dv (.sl (.pair (.sl (.int .i64)) (.pair (.sl (.int .i64)) (.unit)))) plan1), (21, .dv (.int .i64) (plan1.length : Int)), (22, .dv (.int .i64) t22_a), (49, .row 49), (50, .dv (.int .i64) (2 : Int)), (51, .dv (.int .i64) t51_b), (56, .dv (.sl (.int .i64)) (([(plan1.getD t22_a.toNat (([] : List Int), (([] : List Int), ()))).1, ((plan1.getD t22_a.toNat (([] : List Int), (([] : List Int), ()))).2).1] : List (List Int)).getD t51_b.toNat ([] : List Int))), (57, .dv (.int .i64) ((([(plan1.getD t22_a.toNat (([] : List Int), (([] : List Int), ()))).1, ((plan1.getD t22_a.toNat (([] : List Int), (([] : List Int), ()))).2).1] : List (List Int)).getD t51_b.toNat ([] : List Int)).length : Int)), (58, .dv (.int .i64) t58_c)], [(6, .row (.pair (.sl (.int .i64)) (.pair (.sl (.int .i64)) (.unit))) ([plan1.getD t22_a.toNat (([] : List Int), (([] : List Int), ()))] : List (List Int × List Int × Unit))), (49, .row (.sl (.int .i64)) ([(plan1.getD t22_a.toNat (([] : List Int), (([] : List Int), ()))).1, ((plan1.getD t22_a.toNat (([] : List Int), (([] : List Int), ()))).2).1] : List (List Int)))]⟩
def Sl35b (stones0 : Int) (plan1 : List (List Int × List Int × Unit)) (t22_a : Int) (t51_b : Int) : TS := ⟨slots 89 [(0, .dv (.int .i64) stones0), (6, .ptr 6 0 []), (20, .dv (.sl (.pair (.sl (.int .i64)) (.pair (.sl (.int .i64)) (.unit)))) plan1), (21, .dv (.int .i64) (plan1.length : Int)), (22, .dv (.int .i64) t22_a), (49, .row 49), (50, .dv (.int .i64) (2 : Int)), (51, .dv (.int .i64) t51_b)], [(6, .row (.pair (.sl (.int .i64)) (.pair (.sl (.int .i64)) (.unit))) ([plan1.getD t22_a.toNat (([] : List Int), (([] : List Int), ()))] : List (List Int × List Int × Unit))), (49, .row (.sl (.int .i64)) ([(plan1.getD t22_a.toNat (([] : List Int), (([] : List Int), ()))).1, ((plan1.getD t22_a.toNat (([] : List Int), (([] : List Int), ()))).2).1] : List (List Int)))]⟩
def Sl35a (stones0 : Int) (plan1 : List (List Int × List Int × Unit)) (t22_a : Int) : TS := ⟨slots 89 [(0, .dv (.int .i64) stones0), (20, .dv (.sl (.pair (.sl (.int .i64)) (.pair (.sl (.int .i64)) (.unit)))) plan1), (21, .dv (.int .i64) (plan1.length : Int)), (22, .dv (.int .i64) t22_a)], []⟩
def l35c (a57 : Int → Int → Int → Option (Bool)) (a68 : Int → (List (List Int)) → Option (Int)) (N : Nat) (stones0 : Int) (plan1 : List (List Int × List Int × Unit)) (t22_a : Int) (t51_b : Int) (rec_l35b : Int → Option (Int)) : Nat → Int → Int → Option (Int)
  | 0, _, _ => none
  | n + 1, last9_c, t58_c => cond (decide (t58_c < ((([(plan1.getD t22_a.toNat (([] : List Int), (([] : List Int), ()))).1, ((plan1.getD t22_a.toNat (([] : List Int), (([] : List Int), ()))).2).1] : List (List Int)).getD t51_b.toNat ([] : List Int)).length : Int))) (chk (decide (0 ≤ t58_c ∧ t58_c < ((([(plan1.getD t22_a.toNat (([] : List Int), (([] : List Int), ()))).1, ((plan1.getD t22_a.toNat (([] : List Int), (([] : List Int), ()))).2).1] : List (List Int)).getD t51_b.toNat ([] : List Int)).length : Int))) ((a57 (0 : Int) ((([(plan1.getD t22_a.toNat (([] : List Int), (([] : List Int), ()))).1, ((plan1.getD t22_a.toNat (([] : List Int), (([] : List Int), ()))).2).1] : List (List Int)).getD t51_b.toNat ([] : List Int)).getD t58_c.toNat (0 : Int)) (w64 (stones0 - (1 : Int)))).bind fun r2 =>
      cond (!r2) (some (5 : Int))
      (cond (decide (((([(plan1.getD t22_a.toNat (([] : List Int), (([] : List Int), ()))).1, ((plan1.getD t22_a.toNat (([] : List Int), (([] : List Int), ()))).2).1] : List (List Int)).getD t51_b.toNat ([] : List Int)).getD t58_c.toNat (0 : Int)) ≤ last9_c)) (some (7 : Int))
      (cond (t51_b == (1 : Int)) ((a68 ((([(plan1.getD t22_a.toNat (([] : List Int), (([] : List Int), ()))).1, ((plan1.getD t22_a.toNat (([] : List Int), (([] : List Int), ()))).2).1] : List (List Int)).getD t51_b.toNat ([] : List Int)).getD t58_c.toNat (0 : Int)) ([(plan1.getD t22_a.toNat (([] : List Int), (([] : List Int), ()))).1, ((plan1.getD t22_a.toNat (([] : List Int), (([] : List Int), ()))).2).1] : List (List Int))).bind fun r3 =>
      cond (r3 == (2 : Int)) (some (6 : Int))
      ((l35c a57 a68 N stones0 plan1 t22_a t51_b rec_l35b n ((([(plan1.getD t22_a.toNat (([] : List Int), (([] : List Int), ()))).1, ((plan1.getD t22_a.toNat (([] : List Int), (([] : List Int), ()))).2).1] : List (List Int)).getD t51_b.toNat ([] : List Int)).getD t58_c.toNat (0 : Int)) (w64 (t58_c + (1 : Int))))))
      ((l35c a57 a68 N stones0 plan1 t22_a t51_b rec_l35b n ((([(plan1.getD t22_a.toNat (([] : List Int), (([] : List Int), ()))).1, ((plan1.getD t22_a.toNat (([] : List Int), (([] : List Int), ()))).2).1] : List (List Int)).getD t51_b.toNat ([] : List Int)).getD t58_c.toNat (0 : Int)) (w64 (t58_c + (1 : Int)))))))))
      ((rec_l35b (w64 (t51_b + (1 : Int)))))
theorem wl35c (a57 : Int → Int → Int → Option (Bool)) (a68 : Int → (List (List Int)) → Option (Int)) (N : Nat) (stones0 : Int) (plan1 : List (List Int × List Int × Unit)) (t22_a : Int) (t51_b : Int) (T35_0 : TS → Option (Int)) (T35_1 : TS → Option (Int)) (m : Nat) (last9_c : Int) (t58_c : Int) : R35_2 a57 a68 N T35_0 T35_1 (m + 1) (Sl35c stones0 plan1 t22_a t51_b last9_c t58_c) = cond (decide (t58_c < ((([(plan1.getD t22_a.toNat (([] : List Int), (([] : List Int), ()))).1, ((plan1.getD t22_a.toNat (([] : List Int), (([] : List Int), ()))).2).1] : List (List Int)).getD t51_b.toNat ([] : List Int)).length : Int))) (chk (decide (0 ≤ t58_c ∧ t58_c < ((([(plan1.getD t22_a.toNat (([] : List Int), (([] : List Int), ()))).1, ((plan1.getD t22_a.toNat (([] : List Int), (([] : List Int), ()))).2).1] : List (List Int)).getD t51_b.toNat ([] : List Int)).length : Int))) ((a57 (0 : Int) ((([(plan1.getD t22_a.toNat (([] : List Int), (([] : List Int), ()))).1, ((plan1.getD t22_a.toNat (([] : List Int), (([] : List Int), ()))).2).1] : List (List Int)).getD t51_b.toNat ([] : List Int)).getD t58_c.toNat (0 : Int)) (w64 (stones0 - (1 : Int)))).bind fun r2 =>
      cond (!r2) (some (5 : Int))
      (cond (decide (((([(plan1.getD t22_a.toNat (([] : List Int), (([] : List Int), ()))).1, ((plan1.getD t22_a.toNat (([] : List Int), (([] : List Int), ()))).2).1] : List (List Int)).getD t51_b.toNat ([] : List Int)).getD t58_c.toNat (0 : Int)) ≤ last9_c)) (some (7 : Int))
      (cond (t51_b == (1 : Int)) ((a68 ((([(plan1.getD t22_a.toNat (([] : List Int), (([] : List Int), ()))).1, ((plan1.getD t22_a.toNat (([] : List Int), (([] : List Int), ()))).2).1] : List (List Int)).getD t51_b.toNat ([] : List Int)).getD t58_c.toNat (0 : Int)) ([(plan1.getD t22_a.toNat (([] : List Int), (([] : List Int), ()))).1, ((plan1.getD t22_a.toNat (([] : List Int), (([] : List Int), ()))).2).1] : List (List Int))).bind fun r3 =>
      cond (r3 == (2 : Int)) (some (6 : Int))
      ((R35_2 a57 a68 N T35_0 T35_1 m (Sl35c stones0 plan1 t22_a t51_b ((([(plan1.getD t22_a.toNat (([] : List Int), (([] : List Int), ()))).1, ((plan1.getD t22_a.toNat (([] : List Int), (([] : List Int), ()))).2).1] : List (List Int)).getD t51_b.toNat ([] : List Int)).getD t58_c.toNat (0 : Int)) (w64 (t58_c + (1 : Int)))))))
      ((R35_2 a57 a68 N T35_0 T35_1 m (Sl35c stones0 plan1 t22_a t51_b ((([(plan1.getD t22_a.toNat (([] : List Int), (([] : List Int), ()))).1, ((plan1.getD t22_a.toNat (([] : List Int), (([] : List Int), ()))).2).1] : List (List Int)).getD t51_b.toNat ([] : List Int)).getD t58_c.toNat (0 : Int)) (w64 (t58_c + (1 : Int))))))))))
      ((T35_1 (Sl35b stones0 plan1 t22_a (w64 (t51_b + (1 : Int)))))) := by kernel_rfl
theorem ql35c (a57 : Int → Int → Int → Option (Bool)) (a68 : Int → (List (List Int)) → Option (Int)) (N : Nat) (stones0 : Int) (plan1 : List (List Int × List Int × Unit)) (t22_a : Int) (t51_b : Int) (T35_0 : TS → Option (Int)) (T35_1 : TS → Option (Int)) : ∀ (m : Nat) (last9_c : Int) (t58_c : Int), R35_2 a57 a68 N T35_0 T35_1 m (Sl35c stones0 plan1 t22_a t51_b last9_c t58_c) = l35c a57 a68 N stones0 plan1 t22_a t51_b (fun y0 => T35_1 (Sl35b stones0 plan1 t22_a y0)) m last9_c t58_c
        | 0, _, _ => rfl
        | m + 1, last9_c, t58_c => by rw [wl35c]; simp only [l35c, ql35c a57 a68 N stones0 plan1 t22_a t51_b T35_0 T35_1 m]
def l35b (a57 : Int → Int → Int → Option (Bool)) (a68 : Int → (List (List Int)) → Option (Int)) (N : Nat) (stones0 : Int) (plan1 : List (List Int × List Int × Unit)) (t22_a : Int) (rec_l35a : Int → Option (Int)) : Nat → Int → Option (Int)
  | 0, _ => none
  | n + 1, t51_b => cond (decide (t51_b < (2 : Int))) (chk (decide (0 ≤ t51_b ∧ t51_b < (2 : Int))) ((l35c a57 a68 N stones0 plan1 t22_a t51_b (fun y0 => (l35b a57 a68 N stones0 plan1 t22_a rec_l35a n y0)) N (-1 : Int) (0 : Int))))
      ((rec_l35a (w64 (t22_a + (1 : Int)))))
theorem wl35b (a57 : Int → Int → Int → Option (Bool)) (a68 : Int → (List (List Int)) → Option (Int)) (N : Nat) (stones0 : Int) (plan1 : List (List Int × List Int × Unit)) (t22_a : Int) (T35_0 : TS → Option (Int)) (m : Nat) (t51_b : Int) : R35_1 a57 a68 N T35_0 (m + 1) (Sl35b stones0 plan1 t22_a t51_b) = cond (decide (t51_b < (2 : Int))) (chk (decide (0 ≤ t51_b ∧ t51_b < (2 : Int))) ((R35_2 a57 a68 N T35_0 (R35_1 a57 a68 N T35_0 m) N (Sl35c stones0 plan1 t22_a t51_b (-1 : Int) (0 : Int)))))
      ((T35_0 (Sl35a stones0 plan1 (w64 (t22_a + (1 : Int)))))) := by kernel_rfl
theorem ql35b (a57 : Int → Int → Int → Option (Bool)) (a68 : Int → (List (List Int)) → Option (Int)) (N : Nat) (stones0 : Int) (plan1 : List (List Int × List Int × Unit)) (t22_a : Int) (T35_0 : TS → Option (Int)) : ∀ (m : Nat) (t51_b : Int), R35_1 a57 a68 N T35_0 m (Sl35b stones0 plan1 t22_a t51_b) = l35b a57 a68 N stones0 plan1 t22_a (fun y0 => T35_0 (Sl35a stones0 plan1 y0)) m t51_b
        | 0, _ => rfl
        | m + 1, t51_b => by rw [wl35b]; simp only [l35b, ql35c, ql35b a57 a68 N stones0 plan1 t22_a T35_0 m]
def l35a (a57 : Int → Int → Int → Option (Bool)) (a68 : Int → (List (List Int)) → Option (Int)) (N : Nat) (stones0 : Int) (plan1 : List (List Int × List Int × Unit)) : Nat → Int → Option (Int)
  | 0, _ => none
  | n + 1, t22_a => cond (decide (t22_a < (plan1.length : Int))) (chk (decide (0 ≤ t22_a ∧ t22_a < (plan1.length : Int))) (cond ((((plan1.getD t22_a.toNat (([] : List Int), (([] : List Int), ()))).1).length : Int) == (0 : Int)) (some (1 : Int))
      (cond (((((plan1.getD t22_a.toNat (([] : List Int), (([] : List Int), ()))).2).1).length : Int) == (0 : Int)) (some (1 : Int))
      (cond ((((plan1.getD t22_a.toNat (([] : List Int), (([] : List Int), ()))).1).length : Int) != ((((plan1.getD t22_a.toNat (([] : List Int), (([] : List Int), ()))).2).1).length : Int)) (some (9 : Int))
      ((l35b a57 a68 N stones0 plan1 t22_a (fun y0 => (l35a a57 a68 N stones0 plan1 n y0)) N (0 : Int)))))))
      (some (0 : Int))
theorem wl35a (a57 : Int → Int → Int → Option (Bool)) (a68 : Int → (List (List Int)) → Option (Int)) (N : Nat) (stones0 : Int) (plan1 : List (List Int × List Int × Unit)) (m : Nat) (t22_a : Int) : R35_0 a57 a68 N (m + 1) (Sl35a stones0 plan1 t22_a) = cond (decide (t22_a < (plan1.length : Int))) (chk (decide (0 ≤ t22_a ∧ t22_a < (plan1.length : Int))) (cond ((((plan1.getD t22_a.toNat (([] : List Int), (([] : List Int), ()))).1).length : Int) == (0 : Int)) (some (1 : Int))
      (cond (((((plan1.getD t22_a.toNat (([] : List Int), (([] : List Int), ()))).2).1).length : Int) == (0 : Int)) (some (1 : Int))
      (cond ((((plan1.getD t22_a.toNat (([] : List Int), (([] : List Int), ()))).1).length : Int) != ((((plan1.getD t22_a.toNat (([] : List Int), (([] : List Int), ()))).2).1).length : Int)) (some (9 : Int))
      ((R35_1 a57 a68 N (R35_0 a57 a68 N m) N (Sl35b stones0 plan1 t22_a (0 : Int))))))))
      (some (0 : Int)) := by kernel_rfl
theorem ql35a (a57 : Int → Int → Int → Option (Bool)) (a68 : Int → (List (List Int)) → Option (Int)) (N : Nat) (stones0 : Int) (plan1 : List (List Int × List Int × Unit)) : ∀ (m : Nat) (t22_a : Int), R35_0 a57 a68 N m (Sl35a stones0 plan1 t22_a) = l35a a57 a68 N stones0 plan1 m t22_a
        | 0, _ => rfl
        | m + 1, t22_a => by rw [wl35a]; simp only [l35a, ql35b, ql35a a57 a68 N stones0 plan1 m]
def m35 (a57 : Int → Int → Int → Option (Bool)) (a68 : Int → (List (List Int)) → Option (Int)) (N : Nat) (stones0 : Int) (plan1 : List (List Int × List Int × Unit)) : Option (Int) :=
      (a57 (1 : Int) stones0 (13 : Int)).bind fun r1 =>
      cond (!r1) (some (3 : Int))
      (cond (decide ((plan1.length : Int) > (3 : Int))) (some (2 : Int))
      ((l35a a57 a68 N stones0 plan1 N (0 : Int))))
theorem wm35 (a57 : Int → Int → Int → Option (Bool)) (a68 : Int → (List (List Int)) → Option (Int)) (N : Nat) (stones0 : Int) (plan1 : List (List Int × List Int × Unit)) : callF (E35 a57 a68) lv35 N en35 c35 (resOf Try.f35) 87 [.dv (.int .i64) stones0, .dv (.sl (.pair (.sl (.int .i64)) (.pair (.sl (.int .i64)) (.unit)))) plan1] [] dec35 = (a57 (1 : Int) stones0 (13 : Int)).bind fun r1 =>
      cond (!r1) (some (3 : Int))
      (cond (decide ((plan1.length : Int) > (3 : Int))) (some (2 : Int))
      ((R35_0 a57 a68 N N (Sl35a stones0 plan1 (0 : Int))))) := by kernel_rfl
theorem k35 (a57 : Int → Int → Int → Option (Bool)) (a68 : Int → (List (List Int)) → Option (Int)) (N : Nat) (stones0 : Int) (plan1 : List (List Int × List Int × Unit)) : callF (E35 a57 a68) lv35 N en35 c35 (resOf Try.f35) 87 [.dv (.int .i64) stones0, .dv (.sl (.pair (.sl (.int .i64)) (.pair (.sl (.int .i64)) (.unit)))) plan1] [] dec35 = m35 a57 a68 N stones0 plan1 := by rw [wm35]; simp only [m35, ql35a]
theorem ok35 (a57 : Int → Int → Int → Option (Bool)) (a68 : Int → (List (List Int)) → Option (Int)) (h57 : FnOk Try.prog 57 (F57 a57)) (h68 : FnOk Try.prog 68 (F68 a68)) (a : Int → (List (List Int × List Int × Unit)) → Option (Int)) (h : ∀ stones0 plan1 r, a stones0 plan1 = some r → (∃ N, m35 a57 a68 N stones0 plan1 = some r)) : FnOk Try.prog 35 (F35 a) := by
  intro args Of x hx
  simp only [F35] at hx
  split at hx
  · rename_i stones0 plan1
    obtain ⟨N, hN⟩ := h _ _ _ hx
    refine lifted (L := [(57, F57 a57), (68, F68 a68)]) (rc := nrc) (fz := nfz) (fn := Try.f35) (by kernel_rfl) (by kernel_rfl) (by kernel_rfl) (by kernel_rfl) rfl ?_ ((k35 a57 a68 N _ _).trans hN) ?_
    · intro p hp; simp only [List.mem_cons, List.not_mem_nil, or_false] at hp; rcases hp with rfl | rfl
      · exact h57
      · exact h68
    · intro l o hd
      simp only [dec35] at hd
      split at hd
      · obtain rfl := Option.some.inj hd; exact ⟨rfl, rfl⟩
      · cases hd
  · cases hx
def E66 (a68 : Int → (List (List Int)) → Option (Int)) : Env := mkE TI TY [(68, F68 a68)] nrc nfz
noncomputable def c66 : Code := bodyOf Try.f66
def nm66_0 : Norm := ⟨[1, 2, 7, 13, 14, 15], [12], [], []⟩
def lv66 : Nat → Option Norm := norms [(3, nm66_0)]
def en66 : End := ⟨[(38, .sl (.int .i64))], ⟨[38], [], [], []⟩⟩
def dec66 (l : List TV) (o : List (Nat × TO)) : Option (List Int) := match l, o with | [.dv (.sl (.int .i64)) x0], [] => some (x0) | _, _ => none
noncomputable def K66_0 (a68 : Int → (List (List Int)) → Option (Int)) (N : Nat) : Kont (List Int) := kont (E66 a68) lv66 N c66 [1, 1, 0, 1, 0] (fin TI en66 (resOf Try.f66) dec66)
noncomputable def R66_0 (a68 : Int → (List (List Int)) → Option (Int)) (N : Nat) (m : Nat) : TS → Option (List Int) := loopK (den (E66 a68) lv66 N (sub c66 [1, 1, 0, 1, 0, 0])) (TS.norm nm66_0) (K66_0 a68 N) m
def Sl66a (plan0 : List (List Int × List Int × Unit)) (odd1 : Int) (way2 : Int) (t15_a : Int) (o12_a : List Int) : TS := ⟨slots 38 [(1, .dv (.int .i64) odd1), (2, .dv (.int .i64) way2), (7, .row 12), (13, .dv (.sl (.pair (.sl (.int .i64)) (.pair (.sl (.int .i64)) (.unit)))) plan0), (14, .dv (.int .i64) (plan0.length : Int)), (15, .dv (.int .i64) t15_a)], [(12, .row (.int .i64) o12_a)]⟩
def l66a (a68 : Int → (List (List Int)) → Option (Int)) (N : Nat) (plan0 : List (List Int × List Int × Unit)) (odd1 : Int) (way2 : Int) : Nat → Int → (List Int) → Option (List Int)
  | 0, _, _ => none
  | n + 1, t15_a, o12_a => cond (decide (t15_a < (plan0.length : Int))) (chk (decide (0 ≤ t15_a ∧ t15_a < (plan0.length : Int))) ((a68 odd1 ([((plan0.getD t15_a.toNat (([] : List Int), (([] : List Int), ()))).2).1] : List (List Int))).bind fun r1 =>
      (a68 odd1 ([(plan0.getD t15_a.toNat (([] : List Int), (([] : List Int), ()))).1] : List (List Int))).bind fun r2 =>
      chk (decide (0 ≤ t15_a ∧ t15_a < (o12_a.length : Int))) ((l66a a68 N plan0 odd1 way2 n (w64 (t15_a + (1 : Int))) (o12_a.set t15_a.toNat (w64 (way2 * (w64 (r1 - r2)))))))))
      (some o12_a)
theorem wl66a (a68 : Int → (List (List Int)) → Option (Int)) (N : Nat) (plan0 : List (List Int × List Int × Unit)) (odd1 : Int) (way2 : Int) (m : Nat) (t15_a : Int) (o12_a : List Int) : R66_0 a68 N (m + 1) (Sl66a plan0 odd1 way2 t15_a o12_a) = cond (decide (t15_a < (plan0.length : Int))) (chk (decide (0 ≤ t15_a ∧ t15_a < (plan0.length : Int))) ((a68 odd1 ([((plan0.getD t15_a.toNat (([] : List Int), (([] : List Int), ()))).2).1] : List (List Int))).bind fun r1 =>
      (a68 odd1 ([(plan0.getD t15_a.toNat (([] : List Int), (([] : List Int), ()))).1] : List (List Int))).bind fun r2 =>
      chk (decide (0 ≤ t15_a ∧ t15_a < (o12_a.length : Int))) ((R66_0 a68 N m (Sl66a plan0 odd1 way2 (w64 (t15_a + (1 : Int))) (o12_a.set t15_a.toNat (w64 (way2 * (w64 (r1 - r2))))))))))
      (some o12_a) := by kernel_rfl
theorem ql66a (a68 : Int → (List (List Int)) → Option (Int)) (N : Nat) (plan0 : List (List Int × List Int × Unit)) (odd1 : Int) (way2 : Int) : ∀ (m : Nat) (t15_a : Int) (o12_a : List Int), R66_0 a68 N m (Sl66a plan0 odd1 way2 t15_a o12_a) = l66a a68 N plan0 odd1 way2 m t15_a o12_a
        | 0, _, _ => rfl
        | m + 1, t15_a, o12_a => by rw [wl66a]; simp only [l66a, ql66a a68 N plan0 odd1 way2 m]
def m66 (a68 : Int → (List (List Int)) → Option (Int)) (N : Nat) (plan0 : List (List Int × List Int × Unit)) (odd1 : Int) (way2 : Int) : Option (List Int) :=
      chk (mkOk (plan0.length : Int) (plan0.length : Int) 8) ((l66a a68 N plan0 odd1 way2 N (0 : Int) (List.replicate ((plan0.length : Int).toNat) (0 : Int))))
theorem wm66 (a68 : Int → (List (List Int)) → Option (Int)) (N : Nat) (plan0 : List (List Int × List Int × Unit)) (odd1 : Int) (way2 : Int) : callF (E66 a68) lv66 N en66 c66 (resOf Try.f66) 35 [.dv (.sl (.pair (.sl (.int .i64)) (.pair (.sl (.int .i64)) (.unit)))) plan0, .dv (.int .i64) odd1, .dv (.int .i64) way2] [] dec66 = chk (mkOk (plan0.length : Int) (plan0.length : Int) 8) ((R66_0 a68 N N (Sl66a plan0 odd1 way2 (0 : Int) (List.replicate ((plan0.length : Int).toNat) (0 : Int))))) := by kernel_rfl
theorem k66 (a68 : Int → (List (List Int)) → Option (Int)) (N : Nat) (plan0 : List (List Int × List Int × Unit)) (odd1 : Int) (way2 : Int) : callF (E66 a68) lv66 N en66 c66 (resOf Try.f66) 35 [.dv (.sl (.pair (.sl (.int .i64)) (.pair (.sl (.int .i64)) (.unit)))) plan0, .dv (.int .i64) odd1, .dv (.int .i64) way2] [] dec66 = m66 a68 N plan0 odd1 way2 := by rw [wm66]; simp only [m66, ql66a]
theorem ok66 (a68 : Int → (List (List Int)) → Option (Int)) (h68 : FnOk Try.prog 68 (F68 a68)) (a : (List (List Int × List Int × Unit)) → Int → Int → Option (List Int)) (h : ∀ plan0 odd1 way2 r, a plan0 odd1 way2 = some r → (∃ N, m66 a68 N plan0 odd1 way2 = some r)) : FnOk Try.prog 66 (F66 a) := by
  intro args Of x hx
  simp only [F66] at hx
  split at hx
  · rename_i plan0 odd1 way2
    obtain ⟨N, hN⟩ := h _ _ _ _ hx
    refine lifted (L := [(68, F68 a68)]) (rc := nrc) (fz := nfz) (fn := Try.f66) (by kernel_rfl) (by kernel_rfl) (by kernel_rfl) (by kernel_rfl) rfl ?_ ((k66 a68 N _ _ _).trans hN) ?_
    · intro p hp; simp only [List.mem_cons, List.not_mem_nil, or_false] at hp; rcases hp with rfl; exact h68
    · intro l o hd
      simp only [dec66] at hd
      split at hd
      · obtain rfl := Option.some.inj hd; exact ⟨rfl, rfl⟩
      · cases hd
  · cases hx
def E33 (a35 : Int → (List (List Int × List Int × Unit)) → Option (Int)) (a57 : Int → Int → Int → Option (Bool)) (a66 : (List (List Int × List Int × Unit)) → Int → Int → Option (List Int)) : Env := mkE TI TY [(35, F35 a35), (57, F57 a57), (66, F66 a66)] nrc nfz
noncomputable def c33 : Code := bodyOf Try.f33
def lv33 : Nat → Option Norm := norms []
def en33 : End := ⟨[(32, .sl (.int .i64))], ⟨[32, 33], [], [], []⟩⟩
def dec33 (l : List TV) (o : List (Nat × TO)) : Option (List Int × Int) := match l, o with | [.dv (.sl (.int .i64)) x0, .dv (.int .i64) x1], [] => some (x0, x1) | _, _ => none
def m33 (a35 : Int → (List (List Int × List Int × Unit)) → Option (Int)) (a57 : Int → Int → Int → Option (Bool)) (a66 : (List (List Int × List Int × Unit)) → Int → Int → Option (List Int)) (N : Nat) (stones0 : Int) (plan1 : List (List Int × List Int × Unit)) (odd2 : Int) (way3 : Int) : Option (List Int × Int) :=
      (a35 stones0 plan1).bind fun r1 =>
      cond (r1 != (0 : Int)) (some (([] : List Int), r1))
      ((a57 (0 : Int) odd2 (w64 (stones0 - (1 : Int)))).bind fun r2 =>
      cond (!r2) (some (([] : List Int), (5 : Int)))
      ((a57 (-1 : Int) way3 (1 : Int)).bind fun r3 =>
      cond (!r3) (some (([] : List Int), (3 : Int)))
      ((a66 plan1 odd2 way3).bind fun r4 =>
      some (r4, (0 : Int)))))
theorem k33 (a35 : Int → (List (List Int × List Int × Unit)) → Option (Int)) (a57 : Int → Int → Int → Option (Bool)) (a66 : (List (List Int × List Int × Unit)) → Int → Int → Option (List Int)) (N : Nat) (stones0 : Int) (plan1 : List (List Int × List Int × Unit)) (odd2 : Int) (way3 : Int) : callF (E33 a35 a57 a66) lv33 N en33 c33 (resOf Try.f33) 28 [.dv (.int .i64) stones0, .dv (.sl (.pair (.sl (.int .i64)) (.pair (.sl (.int .i64)) (.unit)))) plan1, .dv (.int .i64) odd2, .dv (.int .i64) way3] [] dec33 = m33 a35 a57 a66 N stones0 plan1 odd2 way3 := by kernel_rfl
theorem ok33 (a35 : Int → (List (List Int × List Int × Unit)) → Option (Int)) (a57 : Int → Int → Int → Option (Bool)) (a66 : (List (List Int × List Int × Unit)) → Int → Int → Option (List Int)) (h35 : FnOk Try.prog 35 (F35 a35)) (h57 : FnOk Try.prog 57 (F57 a57)) (h66 : FnOk Try.prog 66 (F66 a66)) (a : Int → (List (List Int × List Int × Unit)) → Int → Int → Option (List Int × Int)) (h : ∀ stones0 plan1 odd2 way3 r, a stones0 plan1 odd2 way3 = some r → (∃ N, m33 a35 a57 a66 N stones0 plan1 odd2 way3 = some r)) : FnOk Try.prog 33 (F33 a) := by
  intro args Of x hx
  simp only [F33] at hx
  split at hx
  · rename_i stones0 plan1 odd2 way3
    obtain ⟨N, hN⟩ := h _ _ _ _ _ hx
    refine lifted (L := [(35, F35 a35), (57, F57 a57), (66, F66 a66)]) (rc := nrc) (fz := nfz) (fn := Try.f33) (by kernel_rfl) (by kernel_rfl) (by kernel_rfl) (by kernel_rfl) rfl ?_ ((k33 a35 a57 a66 N _ _ _ _).trans hN) ?_
    · intro p hp; simp only [List.mem_cons, List.not_mem_nil, or_false] at hp; rcases hp with rfl | rfl | rfl
      · exact h35
      · exact h57
      · exact h66
    · intro l o hd
      simp only [dec33] at hd
      split at hd
      · obtain rfl := Option.some.inj hd; exact ⟨rfl, rfl⟩
      · cases hd
  · cases hx
def E70 : Env := mkE TI TY [] nrc nfz
noncomputable def c70 : Code := bodyOf Try.f70
def lv70 : Nat → Option Norm := norms []
def en70 : End := ⟨[(15, .arr 2 (.int .i64))], ⟨[15], [], [], []⟩⟩
def dec70 (l : List TV) (o : List (Nat × TO)) : Option (List Int) := match l, o with | [.dv (.arr 2 (.int .i64)) x0], [] => some (x0) | _, _ => none
def m70 (N : Nat) (n0 : Int) : Option (List Int) :=
      cond (n0 == (0 : Int)) (some ([(0 : Int), (0 : Int)] : List Int))
      (some ([w64 (Int.tdiv (w64 (n0 - (1 : Int))) (2 : Int)), w64 ((1 : Int) - (w64 ((Int.tmod (w64 (n0 - (1 : Int))) (2 : Int)) * (2 : Int))))] : List Int))
theorem k70 (N : Nat) (n0 : Int) : callF (E70) lv70 N en70 c70 (resOf Try.f70) 14 [.dv (.int .i64) n0] [] dec70 = m70 N n0 := by kernel_rfl
theorem ok70 (a : Int → Option (List Int)) (h : ∀ n0 r, a n0 = some r → (∃ N, m70 N n0 = some r)) : FnOk Try.prog 70 (F70 a) := by
  intro args Of x hx
  simp only [F70] at hx
  split at hx
  · rename_i n0
    obtain ⟨N, hN⟩ := h _ _ hx
    refine lifted (L := []) (rc := nrc) (fz := nfz) (fn := Try.f70) (by kernel_rfl) (by kernel_rfl) (by kernel_rfl) (by kernel_rfl) rfl ?_ ((k70 N _).trans hN) ?_
    · intro p hp; cases hp
    · intro l o hd
      simp only [dec70] at hd
      split at hd
      · obtain rfl := Option.some.inj hd; exact ⟨rfl, rfl⟩
      · cases hd
  · cases hx
def E71 : Env := mkE TI TY [] nrc nfz
noncomputable def c71 : Code := bodyOf Try.f71
def nm71_0 : Norm := ⟨[0, 1, 12, 13], [], [], []⟩
def lv71 : Nat → Option Norm := norms [(4, nm71_0)]
def en71 : End := ⟨[], ⟨[26], [], [], []⟩⟩
def dec71 (l : List TV) (o : List (Nat × TO)) : Option (Bool) := match l, o with | [.dv (.bool) x0], [] => some (x0) | _, _ => none
noncomputable def K71_0 (N : Nat) : Kont (Bool) := kont (E71) lv71 N c71 [1, 1, 0, 1, 0] (fin TI en71 (resOf Try.f71) dec71)
noncomputable def R71_0 (N : Nat) (m : Nat) : TS → Option (Bool) := loopK (den (E71) lv71 N (sub c71 [1, 1, 0, 1, 0, 0])) (TS.norm nm71_0) (K71_0 N) m
def Sl71a (s10 : List Int) (s21 : List Int) (t13_a : Int) : TS := ⟨slots 26 [(0, .dv (.sl (.int .i64)) s10), (1, .dv (.sl (.int .i64)) s21), (12, .dv (.int .i64) (s10.length : Int)), (13, .dv (.int .i64) t13_a)], []⟩
def l71a (N : Nat) (s10 : List Int) (s21 : List Int) : Nat → Int → Option (Bool)
  | 0, _ => none
  | n + 1, t13_a => cond (decide (t13_a < (s10.length : Int))) (chk (decide (0 ≤ t13_a ∧ t13_a < (s10.length : Int))) (chk (decide (0 ≤ t13_a ∧ t13_a < (s21.length : Int))) (cond ((s10.getD t13_a.toNat (0 : Int)) != (s21.getD t13_a.toNat (0 : Int))) (some false)
      ((l71a N s10 s21 n (w64 (t13_a + (1 : Int))))))))
      (some true)
theorem wl71a (N : Nat) (s10 : List Int) (s21 : List Int) (m : Nat) (t13_a : Int) : R71_0 N (m + 1) (Sl71a s10 s21 t13_a) = cond (decide (t13_a < (s10.length : Int))) (chk (decide (0 ≤ t13_a ∧ t13_a < (s10.length : Int))) (chk (decide (0 ≤ t13_a ∧ t13_a < (s21.length : Int))) (cond ((s10.getD t13_a.toNat (0 : Int)) != (s21.getD t13_a.toNat (0 : Int))) (some false)
      ((R71_0 N m (Sl71a s10 s21 (w64 (t13_a + (1 : Int)))))))))
      (some true) := by kernel_rfl
theorem ql71a (N : Nat) (s10 : List Int) (s21 : List Int) : ∀ (m : Nat) (t13_a : Int), R71_0 N m (Sl71a s10 s21 t13_a) = l71a N s10 s21 m t13_a
        | 0, _ => rfl
        | m + 1, t13_a => by rw [wl71a]; simp only [l71a, ql71a N s10 s21 m]
def m71 (N : Nat) (s10 : List Int) (s21 : List Int) : Option (Bool) :=
      cond ((s10.length : Int) != (s21.length : Int)) (some false)
      ((l71a N s10 s21 N (0 : Int)))
theorem wm71 (N : Nat) (s10 : List Int) (s21 : List Int) : callF (E71) lv71 N en71 c71 (resOf Try.f71) 24 [.dv (.sl (.int .i64)) s10, .dv (.sl (.int .i64)) s21] [] dec71 = cond ((s10.length : Int) != (s21.length : Int)) (some false)
      ((R71_0 N N (Sl71a s10 s21 (0 : Int)))) := by kernel_rfl
theorem k71 (N : Nat) (s10 : List Int) (s21 : List Int) : callF (E71) lv71 N en71 c71 (resOf Try.f71) 24 [.dv (.sl (.int .i64)) s10, .dv (.sl (.int .i64)) s21] [] dec71 = m71 N s10 s21 := by rw [wm71]; simp only [m71, ql71a]
theorem ok71 (a : (List Int) → (List Int) → Option (Bool)) (h : ∀ s10 s21 r, a s10 s21 = some r → (∃ N, m71 N s10 s21 = some r)) : FnOk Try.prog 71 (F71 a) := by
  intro args Of x hx
  simp only [F71] at hx
  split at hx
  · rename_i s10 s21
    obtain ⟨N, hN⟩ := h _ _ _ hx
    refine lifted (L := []) (rc := nrc) (fz := nfz) (fn := Try.f71) (by kernel_rfl) (by kernel_rfl) (by kernel_rfl) (by kernel_rfl) rfl ?_ ((k71 N _ _).trans hN) ?_
    · intro p hp; cases hp
    · intro l o hd
      simp only [dec71] at hd
      split at hd
      · obtain rfl := Option.some.inj hd; exact ⟨rfl, rfl⟩
      · cases hd
  · cases hx
def E37 (a35 : Int → (List (List Int × List Int × Unit)) → Option (Int)) (a66 : (List (List Int × List Int × Unit)) → Int → Int → Option (List Int)) (a70 : Int → Option (List Int)) (a71 : (List Int) → (List Int) → Option (Bool)) : Env := mkE TI TY [(35, F35 a35), (66, F66 a66), (70, F70 a70), (71, F71 a71)] nrc nfz
noncomputable def c37 : Code := bodyOf Try.f37
def nm37_0 : Norm := ⟨[0, 1, 4, 5, 22, 23], [4, 5], [], []⟩
def nm37_1 : Norm := ⟨[0, 1, 4, 5, 8, 22, 23, 28, 29], [4, 5], [], []⟩
def lv37 : Nat → Option Norm := norms [(5, nm37_0), (8, nm37_1)]
def en37 : End := ⟨[(60, .arr 2 (.int .i64)), (61, .arr 2 (.int .i64))], ⟨[60, 61, 62], [], [], []⟩⟩
def dec37 (l : List TV) (o : List (Nat × TO)) : Option (List Int × List Int × Int) := match l, o with | [.dv (.arr 2 (.int .i64)) x0, .dv (.arr 2 (.int .i64)) x1, .dv (.int .i64) x2], [] => some (x0, x1, x2) | _, _ => none
noncomputable def K37_0 (a35 : Int → (List (List Int × List Int × Unit)) → Option (Int)) (a66 : (List (List Int × List Int × Unit)) → Int → Int → Option (List Int)) (a70 : Int → Option (List Int)) (a71 : (List Int) → (List Int) → Option (Bool)) (N : Nat) : Kont (List Int × List Int × Int) := kont (E37 a35 a66 a70 a71) lv37 N c37 [1, 1, 0, 1, 0] (fin TI en37 (resOf Try.f37) dec37)
noncomputable def R37_0 (a35 : Int → (List (List Int × List Int × Unit)) → Option (Int)) (a66 : (List (List Int × List Int × Unit)) → Int → Int → Option (List Int)) (a70 : Int → Option (List Int)) (a71 : (List Int) → (List Int) → Option (Bool)) (N : Nat) (m : Nat) : TS → Option (List Int × List Int × Int) := loopK (den (E37 a35 a66 a70 a71) lv37 N (sub c37 [1, 1, 0, 1, 0, 0])) (TS.norm nm37_0) (K37_0 a35 a66 a70 a71 N) m
noncomputable def K37_1 (a35 : Int → (List (List Int × List Int × Unit)) → Option (Int)) (a66 : (List (List Int × List Int × Unit)) → Int → Int → Option (List Int)) (a70 : Int → Option (List Int)) (a71 : (List Int) → (List Int) → Option (Bool)) (N : Nat) (T37_0 : TS → Option (List Int × List Int × Int)) : Kont (List Int × List Int × Int) := kont (E37 a35 a66 a70 a71) lv37 N (sub c37 [1, 1, 0, 1, 0, 0]) [1, 1, 0, 0, 1, 1, 0] (kloop (TS.norm nm37_0) (K37_0 a35 a66 a70 a71 N) T37_0)
noncomputable def R37_1 (a35 : Int → (List (List Int × List Int × Unit)) → Option (Int)) (a66 : (List (List Int × List Int × Unit)) → Int → Int → Option (List Int)) (a70 : Int → Option (List Int)) (a71 : (List Int) → (List Int) → Option (Bool)) (N : Nat) (T37_0 : TS → Option (List Int × List Int × Int)) (m : Nat) : TS → Option (List Int × List Int × Int) := loopK (den (E37 a35 a66 a70 a71) lv37 N (sub c37 [1, 1, 0, 1, 0, 0, 1, 1, 0, 0, 1, 1, 0, 0])) (TS.norm nm37_1) (K37_1 a35 a66 a70 a71 N T37_0) m
def Sl37b (stones0 : Int) (plan1 : List (List Int × List Int × Unit)) (t23_a : Int) (t29_b : Int) : TS := ⟨slots 60 [(0, .dv (.int .i64) stones0), (1, .dv (.sl (.pair (.sl (.int .i64)) (.pair (.sl (.int .i64)) (.unit)))) plan1), (4, .ptr 4 0 []), (5, .ptr 5 0 []), (8, .dv (.int .i64) t23_a), (22, .dv (.int .i64) (w64 ((w64 ((2 : Int) * stones0)) + (1 : Int)))), (23, .dv (.int .i64) t23_a), (28, .dv (.int .i64) (w64 ((w64 ((2 : Int) * stones0)) + (1 : Int)))), (29, .dv (.int .i64) t29_b)], [(4, .row (.arr 2 (.int .i64)) ([([(0 : Int), (0 : Int)] : List Int)] : List (List Int))), (5, .row (.arr 2 (.int .i64)) ([([(0 : Int), (0 : Int)] : List Int)] : List (List Int)))]⟩
def Sl37a (stones0 : Int) (plan1 : List (List Int × List Int × Unit)) (t23_a : Int) : TS := ⟨slots 60 [(0, .dv (.int .i64) stones0), (1, .dv (.sl (.pair (.sl (.int .i64)) (.pair (.sl (.int .i64)) (.unit)))) plan1), (4, .ptr 4 0 []), (5, .ptr 5 0 []), (22, .dv (.int .i64) (w64 ((w64 ((2 : Int) * stones0)) + (1 : Int)))), (23, .dv (.int .i64) t23_a)], [(4, .row (.arr 2 (.int .i64)) ([([(0 : Int), (0 : Int)] : List Int)] : List (List Int))), (5, .row (.arr 2 (.int .i64)) ([([(0 : Int), (0 : Int)] : List Int)] : List (List Int)))]⟩
def l37b (a35 : Int → (List (List Int × List Int × Unit)) → Option (Int)) (a66 : (List (List Int × List Int × Unit)) → Int → Int → Option (List Int)) (a70 : Int → Option (List Int)) (a71 : (List Int) → (List Int) → Option (Bool)) (N : Nat) (stones0 : Int) (plan1 : List (List Int × List Int × Unit)) (t23_a : Int) (rec_l37a : Int → Option (List Int × List Int × Int)) : Nat → Int → Option (List Int × List Int × Int)
  | 0, _ => none
  | n + 1, t29_b => cond (decide (t29_b < (w64 ((w64 ((2 : Int) * stones0)) + (1 : Int))))) ((a70 t23_a).bind fun r2 =>
      (a70 t29_b).bind fun r3 =>
      cond (decide (t29_b > t23_a)) ((a66 plan1 (r2.getD 0 (0 : Int)) (r2.getD 1 (0 : Int))).bind fun r4 =>
      (a66 plan1 (r3.getD 0 (0 : Int)) (r3.getD 1 (0 : Int))).bind fun r5 =>
      (a71 r4 r5).bind fun r6 =>
      cond (r6) (some (r2, r3, (0 : Int)))
      ((l37b a35 a66 a70 a71 N stones0 plan1 t23_a rec_l37a n (w64 (t29_b + (1 : Int))))))
      ((l37b a35 a66 a70 a71 N stones0 plan1 t23_a rec_l37a n (w64 (t29_b + (1 : Int))))))
      ((rec_l37a (w64 (t23_a + (1 : Int)))))
theorem wl37b (a35 : Int → (List (List Int × List Int × Unit)) → Option (Int)) (a66 : (List (List Int × List Int × Unit)) → Int → Int → Option (List Int)) (a70 : Int → Option (List Int)) (a71 : (List Int) → (List Int) → Option (Bool)) (N : Nat) (stones0 : Int) (plan1 : List (List Int × List Int × Unit)) (t23_a : Int) (T37_0 : TS → Option (List Int × List Int × Int)) (m : Nat) (t29_b : Int) : R37_1 a35 a66 a70 a71 N T37_0 (m + 1) (Sl37b stones0 plan1 t23_a t29_b) = cond (decide (t29_b < (w64 ((w64 ((2 : Int) * stones0)) + (1 : Int))))) ((a70 t23_a).bind fun r2 =>
      (a70 t29_b).bind fun r3 =>
      cond (decide (t29_b > t23_a)) ((a66 plan1 (r2.getD 0 (0 : Int)) (r2.getD 1 (0 : Int))).bind fun r4 =>
      (a66 plan1 (r3.getD 0 (0 : Int)) (r3.getD 1 (0 : Int))).bind fun r5 =>
      (a71 r4 r5).bind fun r6 =>
      cond (r6) (some (r2, r3, (0 : Int)))
      ((R37_1 a35 a66 a70 a71 N T37_0 m (Sl37b stones0 plan1 t23_a (w64 (t29_b + (1 : Int)))))))
      ((R37_1 a35 a66 a70 a71 N T37_0 m (Sl37b stones0 plan1 t23_a (w64 (t29_b + (1 : Int)))))))
      ((T37_0 (Sl37a stones0 plan1 (w64 (t23_a + (1 : Int)))))) := by kernel_rfl
theorem ql37b (a35 : Int → (List (List Int × List Int × Unit)) → Option (Int)) (a66 : (List (List Int × List Int × Unit)) → Int → Int → Option (List Int)) (a70 : Int → Option (List Int)) (a71 : (List Int) → (List Int) → Option (Bool)) (N : Nat) (stones0 : Int) (plan1 : List (List Int × List Int × Unit)) (t23_a : Int) (T37_0 : TS → Option (List Int × List Int × Int)) : ∀ (m : Nat) (t29_b : Int), R37_1 a35 a66 a70 a71 N T37_0 m (Sl37b stones0 plan1 t23_a t29_b) = l37b a35 a66 a70 a71 N stones0 plan1 t23_a (fun y0 => T37_0 (Sl37a stones0 plan1 y0)) m t29_b
        | 0, _ => rfl
        | m + 1, t29_b => by rw [wl37b]; simp only [l37b, ql37b a35 a66 a70 a71 N stones0 plan1 t23_a T37_0 m]
def l37a (a35 : Int → (List (List Int × List Int × Unit)) → Option (Int)) (a66 : (List (List Int × List Int × Unit)) → Int → Int → Option (List Int)) (a70 : Int → Option (List Int)) (a71 : (List Int) → (List Int) → Option (Bool)) (N : Nat) (stones0 : Int) (plan1 : List (List Int × List Int × Unit)) : Nat → Int → Option (List Int × List Int × Int)
  | 0, _ => none
  | n + 1, t23_a => cond (decide (t23_a < (w64 ((w64 ((2 : Int) * stones0)) + (1 : Int))))) ((l37b a35 a66 a70 a71 N stones0 plan1 t23_a (fun y0 => (l37a a35 a66 a70 a71 N stones0 plan1 n y0)) N (0 : Int)))
      (some (([(0 : Int), (0 : Int)] : List Int), ([(0 : Int), (0 : Int)] : List Int), (14 : Int)))
theorem wl37a (a35 : Int → (List (List Int × List Int × Unit)) → Option (Int)) (a66 : (List (List Int × List Int × Unit)) → Int → Int → Option (List Int)) (a70 : Int → Option (List Int)) (a71 : (List Int) → (List Int) → Option (Bool)) (N : Nat) (stones0 : Int) (plan1 : List (List Int × List Int × Unit)) (m : Nat) (t23_a : Int) : R37_0 a35 a66 a70 a71 N (m + 1) (Sl37a stones0 plan1 t23_a) = cond (decide (t23_a < (w64 ((w64 ((2 : Int) * stones0)) + (1 : Int))))) ((R37_1 a35 a66 a70 a71 N (R37_0 a35 a66 a70 a71 N m) N (Sl37b stones0 plan1 t23_a (0 : Int))))
      (some (([(0 : Int), (0 : Int)] : List Int), ([(0 : Int), (0 : Int)] : List Int), (14 : Int))) := by kernel_rfl
theorem ql37a (a35 : Int → (List (List Int × List Int × Unit)) → Option (Int)) (a66 : (List (List Int × List Int × Unit)) → Int → Int → Option (List Int)) (a70 : Int → Option (List Int)) (a71 : (List Int) → (List Int) → Option (Bool)) (N : Nat) (stones0 : Int) (plan1 : List (List Int × List Int × Unit)) : ∀ (m : Nat) (t23_a : Int), R37_0 a35 a66 a70 a71 N m (Sl37a stones0 plan1 t23_a) = l37a a35 a66 a70 a71 N stones0 plan1 m t23_a
        | 0, _ => rfl
        | m + 1, t23_a => by rw [wl37a]; simp only [l37a, ql37b, ql37a a35 a66 a70 a71 N stones0 plan1 m]
def m37 (a35 : Int → (List (List Int × List Int × Unit)) → Option (Int)) (a66 : (List (List Int × List Int × Unit)) → Int → Int → Option (List Int)) (a70 : Int → Option (List Int)) (a71 : (List Int) → (List Int) → Option (Bool)) (N : Nat) (stones0 : Int) (plan1 : List (List Int × List Int × Unit)) : Option (List Int × List Int × Int) :=
      (a35 stones0 plan1).bind fun r1 =>
      cond (r1 != (0 : Int)) (some (([(0 : Int), (0 : Int)] : List Int), ([(0 : Int), (0 : Int)] : List Int), r1))
      ((l37a a35 a66 a70 a71 N stones0 plan1 N (0 : Int)))
theorem wm37 (a35 : Int → (List (List Int × List Int × Unit)) → Option (Int)) (a66 : (List (List Int × List Int × Unit)) → Int → Int → Option (List Int)) (a70 : Int → Option (List Int)) (a71 : (List Int) → (List Int) → Option (Bool)) (N : Nat) (stones0 : Int) (plan1 : List (List Int × List Int × Unit)) : callF (E37 a35 a66 a70 a71) lv37 N en37 c37 (resOf Try.f37) 58 [.dv (.int .i64) stones0, .dv (.sl (.pair (.sl (.int .i64)) (.pair (.sl (.int .i64)) (.unit)))) plan1] [] dec37 = (a35 stones0 plan1).bind fun r1 =>
      cond (r1 != (0 : Int)) (some (([(0 : Int), (0 : Int)] : List Int), ([(0 : Int), (0 : Int)] : List Int), r1))
      ((R37_0 a35 a66 a70 a71 N N (Sl37a stones0 plan1 (0 : Int)))) := by kernel_rfl
theorem k37 (a35 : Int → (List (List Int × List Int × Unit)) → Option (Int)) (a66 : (List (List Int × List Int × Unit)) → Int → Int → Option (List Int)) (a70 : Int → Option (List Int)) (a71 : (List Int) → (List Int) → Option (Bool)) (N : Nat) (stones0 : Int) (plan1 : List (List Int × List Int × Unit)) : callF (E37 a35 a66 a70 a71) lv37 N en37 c37 (resOf Try.f37) 58 [.dv (.int .i64) stones0, .dv (.sl (.pair (.sl (.int .i64)) (.pair (.sl (.int .i64)) (.unit)))) plan1] [] dec37 = m37 a35 a66 a70 a71 N stones0 plan1 := by rw [wm37]; simp only [m37, ql37a]
theorem ok37 (a35 : Int → (List (List Int × List Int × Unit)) → Option (Int)) (a66 : (List (List Int × List Int × Unit)) → Int → Int → Option (List Int)) (a70 : Int → Option (List Int)) (a71 : (List Int) → (List Int) → Option (Bool)) (h35 : FnOk Try.prog 35 (F35 a35)) (h66 : FnOk Try.prog 66 (F66 a66)) (h70 : FnOk Try.prog 70 (F70 a70)) (h71 : FnOk Try.prog 71 (F71 a71)) (a : Int → (List (List Int × List Int × Unit)) → Option (List Int × List Int × Int)) (h : ∀ stones0 plan1 r, a stones0 plan1 = some r → (∃ N, m37 a35 a66 a70 a71 N stones0 plan1 = some r)) : FnOk Try.prog 37 (F37 a) := by
  intro args Of x hx
  simp only [F37] at hx
  split at hx
  · rename_i stones0 plan1
    obtain ⟨N, hN⟩ := h _ _ _ hx
    refine lifted (L := [(35, F35 a35), (66, F66 a66), (70, F70 a70), (71, F71 a71)]) (rc := nrc) (fz := nfz) (fn := Try.f37) (by kernel_rfl) (by kernel_rfl) (by kernel_rfl) (by kernel_rfl) rfl ?_ ((k37 a35 a66 a70 a71 N _ _).trans hN) ?_
    · intro p hp; simp only [List.mem_cons, List.not_mem_nil, or_false] at hp; rcases hp with rfl | rfl | rfl | rfl
      · exact h35
      · exact h66
      · exact h70
      · exact h71
    · intro l o hd
      simp only [dec37] at hd
      split at hd
      · obtain rfl := Option.some.inj hd; exact ⟨rfl, rfl⟩
      · cases hd
  · cases hx
def E74 (a57 : Int → Int → Int → Option (Bool)) : Env := mkE TI TY [(57, F57 a57)] nrc nfz
noncomputable def c74 : Code := bodyOf Try.f74
def lv74 : Nat → Option Norm := norms []
def en74 : End := ⟨[], ⟨[6], [], [], []⟩⟩
def dec74 (l : List TV) (o : List (Nat × TO)) : Option (Bool) := match l, o with | [.dv (.bool) x0], [] => some (x0) | _, _ => none
def m74 (a57 : Int → Int → Int → Option (Bool)) (N : Nat) (n0 : Int) : Option (Bool) :=
      (a57 (-1 : Int) n0 (1 : Int)).bind fun r1 =>
      some (!r1)
theorem k74 (a57 : Int → Int → Int → Option (Bool)) (N : Nat) (n0 : Int) : callF (E74 a57) lv74 N en74 c74 (resOf Try.f74) 5 [.dv (.int .i64) n0] [] dec74 = m74 a57 N n0 := by kernel_rfl
theorem ok74 (a57 : Int → Int → Int → Option (Bool)) (h57 : FnOk Try.prog 57 (F57 a57)) (a : Int → Option (Bool)) (h : ∀ n0 r, a n0 = some r → (∃ N, m74 a57 N n0 = some r)) : FnOk Try.prog 74 (F74 a) := by
  intro args Of x hx
  simp only [F74] at hx
  split at hx
  · rename_i n0
    obtain ⟨N, hN⟩ := h _ _ hx
    refine lifted (L := [(57, F57 a57)]) (rc := nrc) (fz := nfz) (fn := Try.f74) (by kernel_rfl) (by kernel_rfl) (by kernel_rfl) (by kernel_rfl) rfl ?_ ((k74 a57 N _).trans hN) ?_
    · intro p hp; simp only [List.mem_cons, List.not_mem_nil, or_false] at hp; rcases hp with rfl; exact h57
    · intro l o hd
      simp only [dec74] at hd
      split at hd
      · obtain rfl := Option.some.inj hd; exact ⟨rfl, rfl⟩
      · cases hd
  · cases hx
def E80c74 (a74 : Int → Option (Bool)) : Env := mkE TI TY [(74, F74 a74)] nrc nfz
noncomputable def c80c74 : Code := bodyOf Try.f80
def nm80c74_0 : Norm := ⟨[0, 1, 7, 8], [], [], []⟩
def lv80c74 : Nat → Option Norm := norms [(2, nm80c74_0)]
def en80c74 : End := ⟨[], ⟨[19], [], [], []⟩⟩
def dec80c74 (l : List TV) (o : List (Nat × TO)) : Option (Int) := match l, o with | [.dv (.int .i64) x0], [] => some (x0) | _, _ => none
noncomputable def K80c74_0 (a74 : Int → Option (Bool)) (N : Nat) : Kont (Int) := kont (E80c74 a74) lv80c74 N c80c74 [1, 0, 1, 0] (fin TI en80c74 (resOf Try.f80) dec80c74)
noncomputable def R80c74_0 (a74 : Int → Option (Bool)) (N : Nat) (m : Nat) : TS → Option (Int) := loopK (den (E80c74 a74) lv80c74 N (sub c80c74 [1, 0, 1, 0, 0])) (TS.norm nm80c74_0) (K80c74_0 a74 N) m
def Sl80c74a (s0 : List Int) (t8_a : Int) : TS := ⟨slots 19 [(0, .dv (.sl (.int .i64)) s0), (1, .fn 74 0 0 fun i => ([] : List TV).getD i .any), (7, .dv (.int .i64) (s0.length : Int)), (8, .dv (.int .i64) t8_a)], []⟩
def l80c74a (a74 : Int → Option (Bool)) (N : Nat) (s0 : List Int) : Nat → Int → Option (Int)
  | 0, _ => none
  | n + 1, t8_a => cond (decide (t8_a < (s0.length : Int))) (chk (decide (0 ≤ t8_a ∧ t8_a < (s0.length : Int))) ((a74 (s0.getD t8_a.toNat (0 : Int))).bind fun r1 =>
      cond (r1) (some t8_a)
      ((l80c74a a74 N s0 n (w64 (t8_a + (1 : Int)))))))
      (some (-1 : Int))
theorem wl80c74a (a74 : Int → Option (Bool)) (N : Nat) (s0 : List Int) (m : Nat) (t8_a : Int) : R80c74_0 a74 N (m + 1) (Sl80c74a s0 t8_a) = cond (decide (t8_a < (s0.length : Int))) (chk (decide (0 ≤ t8_a ∧ t8_a < (s0.length : Int))) ((a74 (s0.getD t8_a.toNat (0 : Int))).bind fun r1 =>
      cond (r1) (some t8_a)
      ((R80c74_0 a74 N m (Sl80c74a s0 (w64 (t8_a + (1 : Int))))))))
      (some (-1 : Int)) := by kernel_rfl
theorem ql80c74a (a74 : Int → Option (Bool)) (N : Nat) (s0 : List Int) : ∀ (m : Nat) (t8_a : Int), R80c74_0 a74 N m (Sl80c74a s0 t8_a) = l80c74a a74 N s0 m t8_a
        | 0, _ => rfl
        | m + 1, t8_a => by rw [wl80c74a]; simp only [l80c74a, ql80c74a a74 N s0 m]
def m80c74 (a74 : Int → Option (Bool)) (N : Nat) (s0 : List Int) : Option (Int) :=
      (l80c74a a74 N s0 N (0 : Int))
theorem wm80c74 (a74 : Int → Option (Bool)) (N : Nat) (s0 : List Int) : callF (E80c74 a74) lv80c74 N en80c74 c80c74 (resOf Try.f80) 17 [.dv (.sl (.int .i64)) s0, .fn 74 0 0 fun i => ([] : List TV).getD i .any] [] dec80c74 = (R80c74_0 a74 N N (Sl80c74a s0 (0 : Int))) := by kernel_rfl
theorem k80c74 (a74 : Int → Option (Bool)) (N : Nat) (s0 : List Int) : callF (E80c74 a74) lv80c74 N en80c74 c80c74 (resOf Try.f80) 17 [.dv (.sl (.int .i64)) s0, .fn 74 0 0 fun i => ([] : List TV).getD i .any] [] dec80c74 = m80c74 a74 N s0 := by rw [wm80c74]; simp only [m80c74, ql80c74a]
theorem ok80c74 (a74 : Int → Option (Bool)) (h74 : FnOk Try.prog 74 (F74 a74)) (a : (List Int) → Option (Int)) (h : ∀ s0 r, a s0 = some r → (∃ N, m80c74 a74 N s0 = some r)) : FnOk Try.prog 80 (F80c74 a) := by
  intro args Of x hx
  simp only [F80c74] at hx
  split at hx
  · rename_i s0 f_0 heqc
    have hc0 := congrArg (fun c : List (List TV) => c.getD 0 []) heqc
    obtain ⟨N, hN⟩ := h _ _ hx
    refine HSpec.etaL (args := [.dv (.sl (.int .i64)) s0, .fn 74 0 0 fun i => ([] : List TV).getD i .any]) (O := []) ⟨TV.sim_refl _, TV.sim_fn hc0, trivial⟩ trivial (lifted (L := [(74, F74 a74)]) (rc := nrc) (fz := nfz) (fn := Try.f80) (by kernel_rfl) (by kernel_rfl) (by kernel_rfl) (by kernel_rfl) rfl ?_ ((k80c74 a74 N _).trans hN) ?_)
    · intro p hp; simp only [List.mem_cons, List.not_mem_nil, or_false] at hp; rcases hp with rfl; exact h74
    · intro l o hd
      simp only [dec80c74] at hd
      split at hd
      · obtain rfl := Option.some.inj hd; exact ⟨rfl, rfl⟩
      · cases hd
  · cases hx
def E64c74 (a80c74 : (List Int) → Option (Int)) : Env := mkE TI TY [(80, F80c74 a80c74)] nrc nfz
noncomputable def c64c74 : Code := bodyOf Try.f64
def lv64c74 : Nat → Option Norm := norms []
def en64c74 : End := ⟨[], ⟨[9], [], [], []⟩⟩
def dec64c74 (l : List TV) (o : List (Nat × TO)) : Option (Bool) := match l, o with | [.dv (.bool) x0], [] => some (x0) | _, _ => none
def m64c74 (a80c74 : (List Int) → Option (Int)) (N : Nat) (s0 : List Int) : Option (Bool) :=
      (a80c74 s0).bind fun r1 =>
      some (decide (r1 ≥ (0 : Int)))
theorem k64c74 (a80c74 : (List Int) → Option (Int)) (N : Nat) (s0 : List Int) : callF (E64c74 a80c74) lv64c74 N en64c74 c64c74 (resOf Try.f64) 7 [.dv (.sl (.int .i64)) s0, .fn 74 0 0 fun i => ([] : List TV).getD i .any] [] dec64c74 = m64c74 a80c74 N s0 := by kernel_rfl
theorem ok64c74 (a80c74 : (List Int) → Option (Int)) (h80c74 : FnOk Try.prog 80 (F80c74 a80c74)) (a : (List Int) → Option (Bool)) (h : ∀ s0 r, a s0 = some r → (∃ N, m64c74 a80c74 N s0 = some r)) : FnOk Try.prog 64 (F64c74 a) := by
  intro args Of x hx
  simp only [F64c74] at hx
  split at hx
  · rename_i s0 f_0 heqc
    have hc0 := congrArg (fun c : List (List TV) => c.getD 0 []) heqc
    obtain ⟨N, hN⟩ := h _ _ hx
    refine HSpec.etaL (args := [.dv (.sl (.int .i64)) s0, .fn 74 0 0 fun i => ([] : List TV).getD i .any]) (O := []) ⟨TV.sim_refl _, TV.sim_fn hc0, trivial⟩ trivial (lifted (L := [(80, F80c74 a80c74)]) (rc := nrc) (fz := nfz) (fn := Try.f64) (by kernel_rfl) (by kernel_rfl) (by kernel_rfl) (by kernel_rfl) rfl ?_ ((k64c74 a80c74 N _).trans hN) ?_)
    · intro p hp; simp only [List.mem_cons, List.not_mem_nil, or_false] at hp; rcases hp with rfl; exact h80c74
    · intro l o hd
      simp only [dec64c74] at hd
      split at hd
      · obtain rfl := Option.some.inj hd; exact ⟨rfl, rfl⟩
      · cases hd
  · cases hx
def E39 (a35 : Int → (List (List Int × List Int × Unit)) → Option (Int)) (a64c74 : (List Int) → Option (Bool)) (a66 : (List (List Int × List Int × Unit)) → Int → Int → Option (List Int)) (a70 : Int → Option (List Int)) (a71 : (List Int) → (List Int) → Option (Bool)) : Env := mkE TI TY [(35, F35 a35), (64, F64c74 a64c74), (66, F66 a66), (70, F70 a70), (71, F71 a71)] nrc nfz
noncomputable def c39 : Code := bodyOf Try.f39
def nm39_0 : Norm := ⟨[1, 2, 31, 32], [], [(.slot 9, 1009, .arr 2 (.int .i64))], []⟩
def lv39 : Nat → Option Norm := norms [(8, nm39_0)]
def en39 : End := ⟨[(51, .sl (.arr 2 (.int .i64)))], ⟨[51, 52], [], [], []⟩⟩
def dec39 (l : List TV) (o : List (Nat × TO)) : Option (List (List Int) × Int) := match l, o with | [.dv (.sl (.arr 2 (.int .i64))) x0, .dv (.int .i64) x1], [] => some (x0, x1) | _, _ => none
noncomputable def K39_0 (a35 : Int → (List (List Int × List Int × Unit)) → Option (Int)) (a64c74 : (List Int) → Option (Bool)) (a66 : (List (List Int × List Int × Unit)) → Int → Int → Option (List Int)) (a70 : Int → Option (List Int)) (a71 : (List Int) → (List Int) → Option (Bool)) (N : Nat) : Kont (List (List Int) × Int) := kont (E39 a35 a64c74 a66 a70 a71) lv39 N c39 [1, 1, 1, 1, 0, 1, 0] (fin TI en39 (resOf Try.f39) dec39)
noncomputable def R39_0 (a35 : Int → (List (List Int × List Int × Unit)) → Option (Int)) (a64c74 : (List Int) → Option (Bool)) (a66 : (List (List Int × List Int × Unit)) → Int → Int → Option (List Int)) (a70 : Int → Option (List Int)) (a71 : (List Int) → (List Int) → Option (Bool)) (N : Nat) (m : Nat) : TS → Option (List (List Int) × Int) := loopK (den (E39 a35 a64c74 a66 a70 a71) lv39 N (sub c39 [1, 1, 1, 1, 0, 1, 0, 0])) (TS.norm nm39_0) (K39_0 a35 a64c74 a66 a70 a71 N) m
def Sl39a (stones0 : Int) (plan1 : List (List Int × List Int × Unit)) (shown2 : List Int) (t32_a : Int) (out9_a : List (List Int)) : TS := ⟨slots 51 [(1, .dv (.sl (.pair (.sl (.int .i64)) (.pair (.sl (.int .i64)) (.unit)))) plan1), (2, .dv (.sl (.int .i64)) shown2), (9, .row 1009), (31, .dv (.int .i64) (w64 ((w64 ((2 : Int) * stones0)) + (1 : Int)))), (32, .dv (.int .i64) t32_a)], [(1009, .row (.arr 2 (.int .i64)) out9_a)]⟩
def l39a (a35 : Int → (List (List Int × List Int × Unit)) → Option (Int)) (a64c74 : (List Int) → Option (Bool)) (a66 : (List (List Int × List Int × Unit)) → Int → Int → Option (List Int)) (a70 : Int → Option (List Int)) (a71 : (List Int) → (List Int) → Option (Bool)) (N : Nat) (stones0 : Int) (plan1 : List (List Int × List Int × Unit)) (shown2 : List Int) : Nat → Int → (List (List Int)) → Option (List (List Int) × Int)
  | 0, _, _ => none
  | n + 1, t32_a, out9_a => cond (decide (t32_a < (w64 ((w64 ((2 : Int) * stones0)) + (1 : Int))))) ((a70 t32_a).bind fun r3 =>
      (a66 plan1 (r3.getD 0 (0 : Int)) (r3.getD 1 (0 : Int))).bind fun r4 =>
      (a71 r4 shown2).bind fun r5 =>
      cond (r5) (chk (small (out9_a.length + 1) 16) ((l39a a35 a64c74 a66 a70 a71 N stones0 plan1 shown2 n (w64 (t32_a + (1 : Int))) (out9_a ++ ([r3] : List (List Int))))))
      ((l39a a35 a64c74 a66 a70 a71 N stones0 plan1 shown2 n (w64 (t32_a + (1 : Int))) out9_a)))
      (some (out9_a, (0 : Int)))
theorem wl39a (a35 : Int → (List (List Int × List Int × Unit)) → Option (Int)) (a64c74 : (List Int) → Option (Bool)) (a66 : (List (List Int × List Int × Unit)) → Int → Int → Option (List Int)) (a70 : Int → Option (List Int)) (a71 : (List Int) → (List Int) → Option (Bool)) (N : Nat) (stones0 : Int) (plan1 : List (List Int × List Int × Unit)) (shown2 : List Int) (m : Nat) (t32_a : Int) (out9_a : List (List Int)) : R39_0 a35 a64c74 a66 a70 a71 N (m + 1) (Sl39a stones0 plan1 shown2 t32_a out9_a) = cond (decide (t32_a < (w64 ((w64 ((2 : Int) * stones0)) + (1 : Int))))) ((a70 t32_a).bind fun r3 =>
      (a66 plan1 (r3.getD 0 (0 : Int)) (r3.getD 1 (0 : Int))).bind fun r4 =>
      (a71 r4 shown2).bind fun r5 =>
      cond (r5) (chk (small (out9_a.length + 1) 16) ((R39_0 a35 a64c74 a66 a70 a71 N m (Sl39a stones0 plan1 shown2 (w64 (t32_a + (1 : Int))) (out9_a ++ ([r3] : List (List Int)))))))
      ((R39_0 a35 a64c74 a66 a70 a71 N m (Sl39a stones0 plan1 shown2 (w64 (t32_a + (1 : Int))) out9_a))))
      (some (out9_a, (0 : Int))) := by kernel_rfl
theorem ql39a (a35 : Int → (List (List Int × List Int × Unit)) → Option (Int)) (a64c74 : (List Int) → Option (Bool)) (a66 : (List (List Int × List Int × Unit)) → Int → Int → Option (List Int)) (a70 : Int → Option (List Int)) (a71 : (List Int) → (List Int) → Option (Bool)) (N : Nat) (stones0 : Int) (plan1 : List (List Int × List Int × Unit)) (shown2 : List Int) : ∀ (m : Nat) (t32_a : Int) (out9_a : List (List Int)), R39_0 a35 a64c74 a66 a70 a71 N m (Sl39a stones0 plan1 shown2 t32_a out9_a) = l39a a35 a64c74 a66 a70 a71 N stones0 plan1 shown2 m t32_a out9_a
        | 0, _, _ => rfl
        | m + 1, t32_a, out9_a => by rw [wl39a]; simp only [l39a, ql39a a35 a64c74 a66 a70 a71 N stones0 plan1 shown2 m]
def m39 (a35 : Int → (List (List Int × List Int × Unit)) → Option (Int)) (a64c74 : (List Int) → Option (Bool)) (a66 : (List (List Int × List Int × Unit)) → Int → Int → Option (List Int)) (a70 : Int → Option (List Int)) (a71 : (List Int) → (List Int) → Option (Bool)) (N : Nat) (stones0 : Int) (plan1 : List (List Int × List Int × Unit)) (shown2 : List Int) : Option (List (List Int) × Int) :=
      (a35 stones0 plan1).bind fun r1 =>
      cond (r1 != (0 : Int)) (some (([] : List (List Int)), r1))
      (cond ((shown2.length : Int) != (plan1.length : Int)) (some (([] : List (List Int)), (9 : Int)))
      ((a64c74 shown2).bind fun r2 =>
      cond (r2) (some (([] : List (List Int)), (9 : Int)))
      ((l39a a35 a64c74 a66 a70 a71 N stones0 plan1 shown2 N (0 : Int) ([] : List (List Int))))))
theorem wm39 (a35 : Int → (List (List Int × List Int × Unit)) → Option (Int)) (a64c74 : (List Int) → Option (Bool)) (a66 : (List (List Int × List Int × Unit)) → Int → Int → Option (List Int)) (a70 : Int → Option (List Int)) (a71 : (List Int) → (List Int) → Option (Bool)) (N : Nat) (stones0 : Int) (plan1 : List (List Int × List Int × Unit)) (shown2 : List Int) : callF (E39 a35 a64c74 a66 a70 a71) lv39 N en39 c39 (resOf Try.f39) 48 [.dv (.int .i64) stones0, .dv (.sl (.pair (.sl (.int .i64)) (.pair (.sl (.int .i64)) (.unit)))) plan1, .dv (.sl (.int .i64)) shown2] [] dec39 = (a35 stones0 plan1).bind fun r1 =>
      cond (r1 != (0 : Int)) (some (([] : List (List Int)), r1))
      (cond ((shown2.length : Int) != (plan1.length : Int)) (some (([] : List (List Int)), (9 : Int)))
      ((a64c74 shown2).bind fun r2 =>
      cond (r2) (some (([] : List (List Int)), (9 : Int)))
      ((R39_0 a35 a64c74 a66 a70 a71 N N (Sl39a stones0 plan1 shown2 (0 : Int) ([] : List (List Int))))))) := by kernel_rfl
theorem k39 (a35 : Int → (List (List Int × List Int × Unit)) → Option (Int)) (a64c74 : (List Int) → Option (Bool)) (a66 : (List (List Int × List Int × Unit)) → Int → Int → Option (List Int)) (a70 : Int → Option (List Int)) (a71 : (List Int) → (List Int) → Option (Bool)) (N : Nat) (stones0 : Int) (plan1 : List (List Int × List Int × Unit)) (shown2 : List Int) : callF (E39 a35 a64c74 a66 a70 a71) lv39 N en39 c39 (resOf Try.f39) 48 [.dv (.int .i64) stones0, .dv (.sl (.pair (.sl (.int .i64)) (.pair (.sl (.int .i64)) (.unit)))) plan1, .dv (.sl (.int .i64)) shown2] [] dec39 = m39 a35 a64c74 a66 a70 a71 N stones0 plan1 shown2 := by rw [wm39]; simp only [m39, ql39a]
theorem ok39 (a35 : Int → (List (List Int × List Int × Unit)) → Option (Int)) (a64c74 : (List Int) → Option (Bool)) (a66 : (List (List Int × List Int × Unit)) → Int → Int → Option (List Int)) (a70 : Int → Option (List Int)) (a71 : (List Int) → (List Int) → Option (Bool)) (h35 : FnOk Try.prog 35 (F35 a35)) (h64c74 : FnOk Try.prog 64 (F64c74 a64c74)) (h66 : FnOk Try.prog 66 (F66 a66)) (h70 : FnOk Try.prog 70 (F70 a70)) (h71 : FnOk Try.prog 71 (F71 a71)) (a : Int → (List (List Int × List Int × Unit)) → (List Int) → Option (List (List Int) × Int)) (h : ∀ stones0 plan1 shown2 r, a stones0 plan1 shown2 = some r → (∃ N, m39 a35 a64c74 a66 a70 a71 N stones0 plan1 shown2 = some r)) : FnOk Try.prog 39 (F39 a) := by
  intro args Of x hx
  simp only [F39] at hx
  split at hx
  · rename_i stones0 plan1 shown2
    obtain ⟨N, hN⟩ := h _ _ _ _ hx
    refine lifted (L := [(35, F35 a35), (64, F64c74 a64c74), (66, F66 a66), (70, F70 a70), (71, F71 a71)]) (rc := nrc) (fz := nfz) (fn := Try.f39) (by kernel_rfl) (by kernel_rfl) (by kernel_rfl) (by kernel_rfl) rfl ?_ ((k39 a35 a64c74 a66 a70 a71 N _ _ _).trans hN) ?_
    · intro p hp; simp only [List.mem_cons, List.not_mem_nil, or_false] at hp; rcases hp with rfl | rfl | rfl | rfl | rfl
      · exact h35
      · exact h64c74
      · exact h66
      · exact h70
      · exact h71
    · intro l o hd
      simp only [dec39] at hd
      split at hd
      · obtain rfl := Option.some.inj hd; exact ⟨rfl, rfl⟩
      · cases hd
  · cases hx
def E75 (a57 : Int → Int → Int → Option (Bool)) (a75 : (List (List Int)) → Int → (List Int) → (List Int) → Int → Option (List (List Int) × Bool)) (a82 : (List Int) → Int → Option (Bool)) : Env := mkE TI TY [(57, F57 a57), (75, F75 a75), (82, F82 a82)] nrc nfz
noncomputable def c75 : Code := bodyOf Try.f75
def nm75_0 : Norm := ⟨[0, 1, 4, 7, 8, 36], [7, 8], [], []⟩
def nm75_1 : Norm := ⟨[0, 1, 4, 7, 8, 48, 49], [7, 8], [], []⟩
def nm75_2 : Norm := ⟨[0, 1, 4, 7, 8, 14, 15, 16, 17, 48, 49, 57], [7, 8, 15, 16, 17], [], []⟩
def lv75 : Nat → Option Norm := norms [(6, nm75_0), (12, nm75_1), (16, nm75_2)]
def en75 : End := ⟨[], ⟨[110], [], [(.slot 109, 1500, .arr 3 (.int .i64))], []⟩⟩
def dec75 (l : List TV) (o : List (Nat × TO)) : Option (List (List Int) × Bool) := match l, o with | [.row 1500, .dv (.bool) x1], [(1500, .row (.arr 3 (.int .i64)) x0)] => some (x0, x1) | _, _ => none
noncomputable def K75_0 (a57 : Int → Int → Int → Option (Bool)) (a75 : (List (List Int)) → Int → (List Int) → (List Int) → Int → Option (List (List Int) × Bool)) (a82 : (List Int) → Int → Option (Bool)) (N : Nat) : Kont (List (List Int) × Bool) := kont (E75 a57 a75 a82) lv75 N c75 [1, 1, 1, 0, 1, 0] (fin TI en75 (resOf Try.f75) dec75)
noncomputable def R75_0 (a57 : Int → Int → Int → Option (Bool)) (a75 : (List (List Int)) → Int → (List Int) → (List Int) → Int → Option (List (List Int) × Bool)) (a82 : (List Int) → Int → Option (Bool)) (N : Nat) (m : Nat) : TS → Option (List (List Int) × Bool) := loopK (den (E75 a57 a75 a82) lv75 N (sub c75 [1, 1, 1, 0, 1, 0, 0])) (TS.norm nm75_0) (K75_0 a57 a75 a82 N) m
noncomputable def K75_1 (a57 : Int → Int → Int → Option (Bool)) (a75 : (List (List Int)) → Int → (List Int) → (List Int) → Int → Option (List (List Int) × Bool)) (a82 : (List Int) → Int → Option (Bool)) (N : Nat) : Kont (List (List Int) × Bool) := kont (E75 a57 a75 a82) lv75 N c75 [1, 1, 1, 1, 0, 1, 0] (fin TI en75 (resOf Try.f75) dec75)
noncomputable def R75_1 (a57 : Int → Int → Int → Option (Bool)) (a75 : (List (List Int)) → Int → (List Int) → (List Int) → Int → Option (List (List Int) × Bool)) (a82 : (List Int) → Int → Option (Bool)) (N : Nat) (m : Nat) : TS → Option (List (List Int) × Bool) := loopK (den (E75 a57 a75 a82) lv75 N (sub c75 [1, 1, 1, 1, 0, 1, 0, 0])) (TS.norm nm75_1) (K75_1 a57 a75 a82 N) m
noncomputable def K75_2 (a57 : Int → Int → Int → Option (Bool)) (a75 : (List (List Int)) → Int → (List Int) → (List Int) → Int → Option (List (List Int) × Bool)) (a82 : (List Int) → Int → Option (Bool)) (N : Nat) (T75_1 : TS → Option (List (List Int) × Bool)) : Kont (List (List Int) × Bool) := kont (E75 a57 a75 a82) lv75 N (sub c75 [1, 1, 1, 1, 0, 1, 0, 0]) [1, 1, 0, 0, 1, 1, 0, 1, 0] (kloop (TS.norm nm75_1) (K75_1 a57 a75 a82 N) T75_1)
noncomputable def R75_2 (a57 : Int → Int → Int → Option (Bool)) (a75 : (List (List Int)) → Int → (List Int) → (List Int) → Int → Option (List (List Int) × Bool)) (a82 : (List Int) → Int → Option (Bool)) (N : Nat) (T75_1 : TS → Option (List (List Int) × Bool)) (m : Nat) : TS → Option (List (List Int) × Bool) := loopK (den (E75 a57 a75 a82) lv75 N (sub c75 [1, 1, 1, 1, 0, 1, 0, 0, 1, 1, 0, 0, 1, 1, 0, 1, 0, 0])) (TS.norm nm75_2) (K75_2 a57 a75 a82 N T75_1) m
def Sl75c (l0 : List (List Int)) (stones1 : Int) (sums2 : List Int) (used3 : List Int) (weighings4 : Int) (t49_b : Int) (t57_c : Int) (o15_c : List (List Int)) (o16_c : List (List Int)) (o17_c : List (List Int)) : TS := ⟨slots 109 [(0, .dv (.sl (.arr 3 (.int .i64))) l0), (1, .dv (.int .i64) stones1), (4, .dv (.int .i64) weighings4), (7, .ptr 7 0 []), (8, .ptr 8 0 []), (14, .dv (.int .i64) (([(1 : Int), (-1 : Int)] : List Int).getD t49_b.toNat (0 : Int))), (15, .ptr 15 0 []), (16, .ptr 16 0 []), (17, .ptr 17 0 []), (48, .dv (.arr 2 (.int .i64)) ([(1 : Int), (-1 : Int)] : List Int)), (49, .dv (.int .i64) t49_b), (57, .dv (.int .i64) t57_c)], [(7, .row (.arr 3 (.int .i64)) ([sums2] : List (List Int))), (8, .row (.arr 3 (.int .i64)) ([used3] : List (List Int))), (15, .row (.arr 3 (.int .i64)) o15_c), (16, .row (.arr 3 (.int .i64)) o16_c), (17, .row (.arr 3 (.int .i64)) o17_c)]⟩
def Sl75b (l0 : List (List Int)) (stones1 : Int) (sums2 : List Int) (used3 : List Int) (weighings4 : Int) (t49_b : Int) : TS := ⟨slots 109 [(0, .dv (.sl (.arr 3 (.int .i64))) l0), (1, .dv (.int .i64) stones1), (4, .dv (.int .i64) weighings4), (7, .ptr 7 0 []), (8, .ptr 8 0 []), (48, .dv (.arr 2 (.int .i64)) ([(1 : Int), (-1 : Int)] : List Int)), (49, .dv (.int .i64) t49_b)], [(7, .row (.arr 3 (.int .i64)) ([sums2] : List (List Int))), (8, .row (.arr 3 (.int .i64)) ([used3] : List (List Int)))]⟩
def Sl75a (l0 : List (List Int)) (stones1 : Int) (sums2 : List Int) (used3 : List Int) (weighings4 : Int) (t36_a : Int) : TS := ⟨slots 109 [(0, .dv (.sl (.arr 3 (.int .i64))) l0), (1, .dv (.int .i64) stones1), (4, .dv (.int .i64) weighings4), (7, .ptr 7 0 []), (8, .ptr 8 0 []), (36, .dv (.int .i64) t36_a)], [(7, .row (.arr 3 (.int .i64)) ([sums2] : List (List Int))), (8, .row (.arr 3 (.int .i64)) ([used3] : List (List Int)))]⟩
def l75c (a57 : Int → Int → Int → Option (Bool)) (a75 : (List (List Int)) → Int → (List Int) → (List Int) → Int → Option (List (List Int) × Bool)) (a82 : (List Int) → Int → Option (Bool)) (N : Nat) (l0 : List (List Int)) (stones1 : Int) (sums2 : List Int) (used3 : List Int) (weighings4 : Int) (t49_b : Int) (rec_l75b : Int → Option (List (List Int) × Bool)) : Nat → Int → (List (List Int)) → (List (List Int)) → (List (List Int)) → Option (List (List Int) × Bool)
  | 0, _, _, _, _ => none
  | n + 1, t57_c, o15_c, o16_c, o17_c => cond (decide (t57_c < (3 : Int))) (chk (decide (0 ≤ t57_c ∧ t57_c < (3 : Int))) (chk (decide (0 ≤ t57_c ∧ t57_c < (3 : Int))) (chk ((decide (t57_c.toNat < (o15_c.getD 0 ([(0 : Int), (0 : Int), (0 : Int)] : List Int)).length)) && (true)) (chk (decide (0 ≤ t57_c ∧ t57_c < (3 : Int))) (chk (decide (0 ≤ t57_c ∧ t57_c < (3 : Int))) (chk (decide (0 ≤ t57_c ∧ t57_c < (3 : Int))) (chk ((decide (t57_c.toNat < (o16_c.getD 0 ([(0 : Int), (0 : Int), (0 : Int)] : List Int)).length)) && (true)) (chk (decide (0 ≤ t57_c ∧ t57_c < (3 : Int))) (chk (decide (0 ≤ t57_c ∧ t57_c < (3 : Int))) (chk (decide (0 ≤ t57_c ∧ t57_c < (3 : Int))) (chk ((decide (t57_c.toNat < (o17_c.getD 0 ([(0 : Int), (0 : Int), (0 : Int)] : List Int)).length)) && (true)) ((l75c a57 a75 a82 N l0 stones1 sums2 used3 weighings4 t49_b rec_l75b n (w64 (t57_c + (1 : Int))) (o15_c.set 0 ((o15_c.getD 0 ([(0 : Int), (0 : Int), (0 : Int)] : List Int)).set t57_c.toNat (w64 (((o15_c.getD 0 ([(0 : Int), (0 : Int), (0 : Int)] : List Int)).getD t57_c.toNat (0 : Int)) * (([(1 : Int), (-1 : Int)] : List Int).getD t49_b.toNat (0 : Int)))))) (o16_c.set 0 ((o16_c.getD 0 ([(0 : Int), (0 : Int), (0 : Int)] : List Int)).set t57_c.toNat (w64 (((o16_c.getD 0 ([(0 : Int), (0 : Int), (0 : Int)] : List Int)).getD t57_c.toNat (0 : Int)) + (((o15_c.set 0 ((o15_c.getD 0 ([(0 : Int), (0 : Int), (0 : Int)] : List Int)).set t57_c.toNat (w64 (((o15_c.getD 0 ([(0 : Int), (0 : Int), (0 : Int)] : List Int)).getD t57_c.toNat (0 : Int)) * (([(1 : Int), (-1 : Int)] : List Int).getD t49_b.toNat (0 : Int)))))).getD 0 ([(0 : Int), (0 : Int), (0 : Int)] : List Int)).getD t57_c.toNat (0 : Int)))))) (o17_c.set 0 ((o17_c.getD 0 ([(0 : Int), (0 : Int), (0 : Int)] : List Int)).set t57_c.toNat (bOr .i64 ((o17_c.getD 0 ([(0 : Int), (0 : Int), (0 : Int)] : List Int)).getD t57_c.toNat (0 : Int)) (((o15_c.set 0 ((o15_c.getD 0 ([(0 : Int), (0 : Int), (0 : Int)] : List Int)).set t57_c.toNat (w64 (((o15_c.getD 0 ([(0 : Int), (0 : Int), (0 : Int)] : List Int)).getD t57_c.toNat (0 : Int)) * (([(1 : Int), (-1 : Int)] : List Int).getD t49_b.toNat (0 : Int)))))).getD 0 ([(0 : Int), (0 : Int), (0 : Int)] : List Int)).getD t57_c.toNat (0 : Int))))))))))))))))))
      (chk (decide (0 ≤ (1 : Int) ∧ (1 : Int) ≤ (l0.length : Int))) ((a75 (l0.drop 1) (w64 (stones1 - (1 : Int))) (o16_c.getD 0 ([(0 : Int), (0 : Int), (0 : Int)] : List Int)) (o17_c.getD 0 ([(0 : Int), (0 : Int), (0 : Int)] : List Int)) weighings4).bind fun r3 =>
      cond (r3.2) (chk (small (r3.1.length + 1) 24) (some (r3.1 ++ ([o15_c.getD 0 ([(0 : Int), (0 : Int), (0 : Int)] : List Int)] : List (List Int)), true)))
      ((rec_l75b (w64 (t49_b + (1 : Int)))))))
theorem wl75c (a57 : Int → Int → Int → Option (Bool)) (a75 : (List (List Int)) → Int → (List Int) → (List Int) → Int → Option (List (List Int) × Bool)) (a82 : (List Int) → Int → Option (Bool)) (N : Nat) (l0 : List (List Int)) (stones1 : Int) (sums2 : List Int) (used3 : List Int) (weighings4 : Int) (t49_b : Int) (T75_1 : TS → Option (List (List Int) × Bool)) (m : Nat) (t57_c : Int) (o15_c : List (List Int)) (o16_c : List (List Int)) (o17_c : List (List Int)) : R75_2 a57 a75 a82 N T75_1 (m + 1) (Sl75c l0 stones1 sums2 used3 weighings4 t49_b t57_c o15_c o16_c o17_c) = cond (decide (t57_c < (3 : Int))) (chk (decide (0 ≤ t57_c ∧ t57_c < (3 : Int))) (chk (decide (0 ≤ t57_c ∧ t57_c < (3 : Int))) (chk ((decide (t57_c.toNat < (o15_c.getD 0 ([(0 : Int), (0 : Int), (0 : Int)] : List Int)).length)) && (true)) (chk (decide (0 ≤ t57_c ∧ t57_c < (3 : Int))) (chk (decide (0 ≤ t57_c ∧ t57_c < (3 : Int))) (chk (decide (0 ≤ t57_c ∧ t57_c < (3 : Int))) (chk ((decide (t57_c.toNat < (o16_c.getD 0 ([(0 : Int), (0 : Int), (0 : Int)] : List Int)).length)) && (true)) (chk (decide (0 ≤ t57_c ∧ t57_c < (3 : Int))) (chk (decide (0 ≤ t57_c ∧ t57_c < (3 : Int))) (chk (decide (0 ≤ t57_c ∧ t57_c < (3 : Int))) (chk ((decide (t57_c.toNat < (o17_c.getD 0 ([(0 : Int), (0 : Int), (0 : Int)] : List Int)).length)) && (true)) ((R75_2 a57 a75 a82 N T75_1 m (Sl75c l0 stones1 sums2 used3 weighings4 t49_b (w64 (t57_c + (1 : Int))) (o15_c.set 0 ((o15_c.getD 0 ([(0 : Int), (0 : Int), (0 : Int)] : List Int)).set t57_c.toNat (w64 (((o15_c.getD 0 ([(0 : Int), (0 : Int), (0 : Int)] : List Int)).getD t57_c.toNat (0 : Int)) * (([(1 : Int), (-1 : Int)] : List Int).getD t49_b.toNat (0 : Int)))))) (o16_c.set 0 ((o16_c.getD 0 ([(0 : Int), (0 : Int), (0 : Int)] : List Int)).set t57_c.toNat (w64 (((o16_c.getD 0 ([(0 : Int), (0 : Int), (0 : Int)] : List Int)).getD t57_c.toNat (0 : Int)) + (((o15_c.set 0 ((o15_c.getD 0 ([(0 : Int), (0 : Int), (0 : Int)] : List Int)).set t57_c.toNat (w64 (((o15_c.getD 0 ([(0 : Int), (0 : Int), (0 : Int)] : List Int)).getD t57_c.toNat (0 : Int)) * (([(1 : Int), (-1 : Int)] : List Int).getD t49_b.toNat (0 : Int)))))).getD 0 ([(0 : Int), (0 : Int), (0 : Int)] : List Int)).getD t57_c.toNat (0 : Int)))))) (o17_c.set 0 ((o17_c.getD 0 ([(0 : Int), (0 : Int), (0 : Int)] : List Int)).set t57_c.toNat (bOr .i64 ((o17_c.getD 0 ([(0 : Int), (0 : Int), (0 : Int)] : List Int)).getD t57_c.toNat (0 : Int)) (((o15_c.set 0 ((o15_c.getD 0 ([(0 : Int), (0 : Int), (0 : Int)] : List Int)).set t57_c.toNat (w64 (((o15_c.getD 0 ([(0 : Int), (0 : Int), (0 : Int)] : List Int)).getD t57_c.toNat (0 : Int)) * (([(1 : Int), (-1 : Int)] : List Int).getD t49_b.toNat (0 : Int)))))).getD 0 ([(0 : Int), (0 : Int), (0 : Int)] : List Int)).getD t57_c.toNat (0 : Int)))))))))))))))))))
      (chk (decide (0 ≤ (1 : Int) ∧ (1 : Int) ≤ (l0.length : Int))) ((a75 (l0.drop 1) (w64 (stones1 - (1 : Int))) (o16_c.getD 0 ([(0 : Int), (0 : Int), (0 : Int)] : List Int)) (o17_c.getD 0 ([(0 : Int), (0 : Int), (0 : Int)] : List Int)) weighings4).bind fun r3 =>
      cond (r3.2) (chk (small (r3.1.length + 1) 24) (some (r3.1 ++ ([o15_c.getD 0 ([(0 : Int), (0 : Int), (0 : Int)] : List Int)] : List (List Int)), true)))
      ((T75_1 (Sl75b l0 stones1 sums2 used3 weighings4 (w64 (t49_b + (1 : Int)))))))) := by kernel_rfl
theorem ql75c (a57 : Int → Int → Int → Option (Bool)) (a75 : (List (List Int)) → Int → (List Int) → (List Int) → Int → Option (List (List Int) × Bool)) (a82 : (List Int) → Int → Option (Bool)) (N : Nat) (l0 : List (List Int)) (stones1 : Int) (sums2 : List Int) (used3 : List Int) (weighings4 : Int) (t49_b : Int) (T75_1 : TS → Option (List (List Int) × Bool)) : ∀ (m : Nat) (t57_c : Int) (o15_c : List (List Int)) (o16_c : List (List Int)) (o17_c : List (List Int)), R75_2 a57 a75 a82 N T75_1 m (Sl75c l0 stones1 sums2 used3 weighings4 t49_b t57_c o15_c o16_c o17_c) = l75c a57 a75 a82 N l0 stones1 sums2 used3 weighings4 t49_b (fun y0 => T75_1 (Sl75b l0 stones1 sums2 used3 weighings4 y0)) m t57_c o15_c o16_c o17_c
        | 0, _, _, _, _ => rfl
        | m + 1, t57_c, o15_c, o16_c, o17_c => by rw [wl75c]; simp only [l75c, ql75c a57 a75 a82 N l0 stones1 sums2 used3 weighings4 t49_b T75_1 m]
def l75b (a57 : Int → Int → Int → Option (Bool)) (a75 : (List (List Int)) → Int → (List Int) → (List Int) → Int → Option (List (List Int) × Bool)) (a82 : (List Int) → Int → Option (Bool)) (N : Nat) (l0 : List (List Int)) (stones1 : Int) (sums2 : List Int) (used3 : List Int) (weighings4 : Int) : Nat → Int → Option (List (List Int) × Bool)
  | 0, _ => none
  | n + 1, t49_b => cond (decide (t49_b < (2 : Int))) (chk (decide (0 ≤ t49_b ∧ t49_b < (2 : Int))) (chk (decide (0 ≤ (0 : Int) ∧ (0 : Int) < (l0.length : Int))) ((l75c a57 a75 a82 N l0 stones1 sums2 used3 weighings4 t49_b (fun y0 => (l75b a57 a75 a82 N l0 stones1 sums2 used3 weighings4 n y0)) N (0 : Int) ([l0.getD 0 ([(0 : Int), (0 : Int), (0 : Int)] : List Int)] : List (List Int)) ([sums2] : List (List Int)) ([used3] : List (List Int))))))
      (chk (decide (0 ≤ (1 : Int) ∧ (1 : Int) ≤ (l0.length : Int))) ((a75 (l0.drop 1) stones1 sums2 used3 weighings4).bind fun r4 =>
      some (r4.1, r4.2)))
theorem wl75b (a57 : Int → Int → Int → Option (Bool)) (a75 : (List (List Int)) → Int → (List Int) → (List Int) → Int → Option (List (List Int) × Bool)) (a82 : (List Int) → Int → Option (Bool)) (N : Nat) (l0 : List (List Int)) (stones1 : Int) (sums2 : List Int) (used3 : List Int) (weighings4 : Int) (m : Nat) (t49_b : Int) : R75_1 a57 a75 a82 N (m + 1) (Sl75b l0 stones1 sums2 used3 weighings4 t49_b) = cond (decide (t49_b < (2 : Int))) (chk (decide (0 ≤ t49_b ∧ t49_b < (2 : Int))) (chk (decide (0 ≤ (0 : Int) ∧ (0 : Int) < (l0.length : Int))) ((R75_2 a57 a75 a82 N (R75_1 a57 a75 a82 N m) N (Sl75c l0 stones1 sums2 used3 weighings4 t49_b (0 : Int) ([l0.getD 0 ([(0 : Int), (0 : Int), (0 : Int)] : List Int)] : List (List Int)) ([sums2] : List (List Int)) ([used3] : List (List Int)))))))
      (chk (decide (0 ≤ (1 : Int) ∧ (1 : Int) ≤ (l0.length : Int))) ((a75 (l0.drop 1) stones1 sums2 used3 weighings4).bind fun r4 =>
      some (r4.1, r4.2))) := by kernel_rfl
theorem ql75b (a57 : Int → Int → Int → Option (Bool)) (a75 : (List (List Int)) → Int → (List Int) → (List Int) → Int → Option (List (List Int) × Bool)) (a82 : (List Int) → Int → Option (Bool)) (N : Nat) (l0 : List (List Int)) (stones1 : Int) (sums2 : List Int) (used3 : List Int) (weighings4 : Int) : ∀ (m : Nat) (t49_b : Int), R75_1 a57 a75 a82 N m (Sl75b l0 stones1 sums2 used3 weighings4 t49_b) = l75b a57 a75 a82 N l0 stones1 sums2 used3 weighings4 m t49_b
        | 0, _ => rfl
        | m + 1, t49_b => by rw [wl75b]; simp only [l75b, ql75c, ql75b a57 a75 a82 N l0 stones1 sums2 used3 weighings4 m]
def l75a (a57 : Int → Int → Int → Option (Bool)) (a75 : (List (List Int)) → Int → (List Int) → (List Int) → Int → Option (List (List Int) × Bool)) (a82 : (List Int) → Int → Option (Bool)) (N : Nat) (l0 : List (List Int)) (stones1 : Int) (sums2 : List Int) (used3 : List Int) (weighings4 : Int) : Nat → Int → Option (List (List Int) × Bool)
  | 0, _ => none
  | n + 1, t36_a => cond (decide (t36_a < (3 : Int))) (chk (decide (0 ≤ t36_a ∧ t36_a < (3 : Int))) ((a57 (w64 (0 - stones1)) (sums2.getD t36_a.toNat (0 : Int)) stones1).bind fun r2 =>
      cond (!r2) (some (([] : List (List Int)), false))
      ((l75a a57 a75 a82 N l0 stones1 sums2 used3 weighings4 n (w64 (t36_a + (1 : Int)))))))
      ((l75b a57 a75 a82 N l0 stones1 sums2 used3 weighings4 N (0 : Int)))
theorem wl75a (a57 : Int → Int → Int → Option (Bool)) (a75 : (List (List Int)) → Int → (List Int) → (List Int) → Int → Option (List (List Int) × Bool)) (a82 : (List Int) → Int → Option (Bool)) (N : Nat) (l0 : List (List Int)) (stones1 : Int) (sums2 : List Int) (used3 : List Int) (weighings4 : Int) (m : Nat) (t36_a : Int) : R75_0 a57 a75 a82 N (m + 1) (Sl75a l0 stones1 sums2 used3 weighings4 t36_a) = cond (decide (t36_a < (3 : Int))) (chk (decide (0 ≤ t36_a ∧ t36_a < (3 : Int))) ((a57 (w64 (0 - stones1)) (sums2.getD t36_a.toNat (0 : Int)) stones1).bind fun r2 =>
      cond (!r2) (some (([] : List (List Int)), false))
      ((R75_0 a57 a75 a82 N m (Sl75a l0 stones1 sums2 used3 weighings4 (w64 (t36_a + (1 : Int))))))))
      ((R75_1 a57 a75 a82 N N (Sl75b l0 stones1 sums2 used3 weighings4 (0 : Int)))) := by kernel_rfl
theorem ql75a (a57 : Int → Int → Int → Option (Bool)) (a75 : (List (List Int)) → Int → (List Int) → (List Int) → Int → Option (List (List Int) × Bool)) (a82 : (List Int) → Int → Option (Bool)) (N : Nat) (l0 : List (List Int)) (stones1 : Int) (sums2 : List Int) (used3 : List Int) (weighings4 : Int) : ∀ (m : Nat) (t36_a : Int), R75_0 a57 a75 a82 N m (Sl75a l0 stones1 sums2 used3 weighings4 t36_a) = l75a a57 a75 a82 N l0 stones1 sums2 used3 weighings4 m t36_a
        | 0, _ => rfl
        | m + 1, t36_a => by rw [wl75a]; simp only [l75a, ql75b, ql75a a57 a75 a82 N l0 stones1 sums2 used3 weighings4 m]
def m75 (a57 : Int → Int → Int → Option (Bool)) (a75 : (List (List Int)) → Int → (List Int) → (List Int) → Int → Option (List (List Int) × Bool)) (a82 : (List Int) → Int → Option (Bool)) (N : Nat) (l0 : List (List Int)) (stones1 : Int) (sums2 : List Int) (used3 : List Int) (weighings4 : Int) : Option (List (List Int) × Bool) :=
      cond (stones1 == (0 : Int)) (cond (DT.beq (.arr 3 (.int .i64)) sums2 ([(0 : Int), (0 : Int), (0 : Int)] : List Int)) (chk (decide (0 ≤ weighings4 ∧ weighings4 ≤ (3 : Int)) && true) (chk ((decide (weighings4.toNat ≤ used3.length)) && (true)) ((a82 ((used3.take weighings4.toNat).drop 0) (0 : Int)).bind fun r1 =>
      some (([] : List (List Int)), !r1))))
      (some (([] : List (List Int)), false)))
      (cond (decide ((l0.length : Int) < stones1)) (some (([] : List (List Int)), false))
      ((l75a a57 a75 a82 N l0 stones1 sums2 used3 weighings4 N (0 : Int))))
theorem wm75 (a57 : Int → Int → Int → Option (Bool)) (a75 : (List (List Int)) → Int → (List Int) → (List Int) → Int → Option (List (List Int) × Bool)) (a82 : (List Int) → Int → Option (Bool)) (N : Nat) (l0 : List (List Int)) (stones1 : Int) (sums2 : List Int) (used3 : List Int) (weighings4 : Int) : callF (E75 a57 a75 a82) lv75 N en75 c75 (resOf Try.f75) 104 [.dv (.sl (.arr 3 (.int .i64))) l0, .dv (.int .i64) stones1, .dv (.arr 3 (.int .i64)) sums2, .dv (.arr 3 (.int .i64)) used3, .dv (.int .i64) weighings4] [] dec75 = cond (stones1 == (0 : Int)) (cond (DT.beq (.arr 3 (.int .i64)) sums2 ([(0 : Int), (0 : Int), (0 : Int)] : List Int)) (chk (decide (0 ≤ weighings4 ∧ weighings4 ≤ (3 : Int)) && true) (chk ((decide (weighings4.toNat ≤ used3.length)) && (true)) ((a82 ((used3.take weighings4.toNat).drop 0) (0 : Int)).bind fun r1 =>
      some (([] : List (List Int)), !r1))))
      (some (([] : List (List Int)), false)))
      (cond (decide ((l0.length : Int) < stones1)) (some (([] : List (List Int)), false))
      ((R75_0 a57 a75 a82 N N (Sl75a l0 stones1 sums2 used3 weighings4 (0 : Int))))) := by kernel_rfl
theorem k75 (a57 : Int → Int → Int → Option (Bool)) (a75 : (List (List Int)) → Int → (List Int) → (List Int) → Int → Option (List (List Int) × Bool)) (a82 : (List Int) → Int → Option (Bool)) (N : Nat) (l0 : List (List Int)) (stones1 : Int) (sums2 : List Int) (used3 : List Int) (weighings4 : Int) : callF (E75 a57 a75 a82) lv75 N en75 c75 (resOf Try.f75) 104 [.dv (.sl (.arr 3 (.int .i64))) l0, .dv (.int .i64) stones1, .dv (.arr 3 (.int .i64)) sums2, .dv (.arr 3 (.int .i64)) used3, .dv (.int .i64) weighings4] [] dec75 = m75 a57 a75 a82 N l0 stones1 sums2 used3 weighings4 := by rw [wm75]; simp only [m75, ql75a]
theorem ok75 (a57 : Int → Int → Int → Option (Bool)) (a75 : (List (List Int)) → Int → (List Int) → (List Int) → Int → Option (List (List Int) × Bool)) (a82 : (List Int) → Int → Option (Bool)) (h57 : FnOk Try.prog 57 (F57 a57)) (h75 : FnOk Try.prog 75 (F75 a75)) (h82 : FnOk Try.prog 82 (F82 a82)) (a : (List (List Int)) → Int → (List Int) → (List Int) → Int → Option (List (List Int) × Bool)) (h : ∀ l0 stones1 sums2 used3 weighings4 r, a l0 stones1 sums2 used3 weighings4 = some r → (∃ N, m75 a57 a75 a82 N l0 stones1 sums2 used3 weighings4 = some r)) : FnOk Try.prog 75 (F75 a) := by
  intro args Of x hx
  simp only [F75] at hx
  split at hx
  · rename_i l0 stones1 sums2 used3 weighings4
    obtain ⟨N, hN⟩ := h _ _ _ _ _ _ hx
    refine lifted (L := [(57, F57 a57), (75, F75 a75), (82, F82 a82)]) (rc := nrc) (fz := nfz) (fn := Try.f75) (by kernel_rfl) (by kernel_rfl) (by kernel_rfl) (by kernel_rfl) rfl ?_ ((k75 a57 a75 a82 N _ _ _ _ _).trans hN) ?_
    · intro p hp; simp only [List.mem_cons, List.not_mem_nil, or_false] at hp; rcases hp with rfl | rfl | rfl
      · exact h57
      · exact h75
      · exact h82
    · intro l o hd
      simp only [dec75] at hd
      split at hd
      · obtain rfl := Option.some.inj hd; exact ⟨rfl, rfl⟩
      · cases hd
  · cases hx
def E76 (want0 : List (List Int)) : Env := mkEw TI TY [] nrc nfz (fun i => ([(15, 15), (30, 15), (37, 15)] : List (Nat × Nat)).lookup i)
noncomputable def c76 : Code := bodyOf Try.f76
def nm76_0 : Norm := ⟨[11, 12], [], [(.slot 3, 1003, .arr 3 (.int .i64))], []⟩
def nm76_1 : Norm := ⟨[4, 11, 12, 15, 16, 17], [], [(.slot 3, 1003, .arr 3 (.int .i64))], []⟩
def lv76 : Nat → Option Norm := norms [(3, nm76_0), (6, nm76_1)]
def en76 : End := ⟨[(42, .sl (.arr 3 (.int .i64)))], ⟨[42], [], [], []⟩⟩
def dec76 (want0 : List (List Int)) (l : List TV) (o : List (Nat × TO)) : Option Unit := match l, o with | [.dv (.sl (.arr 3 (.int .i64))) x0], [] => chk (decide (x0 = want0)) (some ()) | _, _ => none
noncomputable def K76_0 (want0 : List (List Int)) (N : Nat) : Kont (Unit) := kont (E76 want0) lv76 N c76 [1, 1, 0, 1, 0] (fin TI en76 (resOf Try.f76) (dec76 want0))
noncomputable def R76_0 (want0 : List (List Int)) (N : Nat) (m : Nat) : TS → Option (Unit) := loopK (den (E76 want0) lv76 N (sub c76 [1, 1, 0, 1, 0, 0])) (TS.norm nm76_0) (K76_0 want0 N) m
noncomputable def K76_1 (want0 : List (List Int)) (N : Nat) (T76_0 : TS → Option (Unit)) : Kont (Unit) := kont (E76 want0) lv76 N (sub c76 [1, 1, 0, 1, 0, 0]) [1, 1, 0, 0, 1, 1, 0] (kloop (TS.norm nm76_0) (K76_0 want0 N) T76_0)
noncomputable def R76_1 (want0 : List (List Int)) (N : Nat) (T76_0 : TS → Option (Unit)) (m : Nat) : TS → Option (Unit) := loopK (den (E76 want0) lv76 N (sub c76 [1, 1, 0, 1, 0, 0, 1, 1, 0, 0, 1, 1, 0, 0])) (TS.norm nm76_1) (K76_1 want0 N T76_0) m
def Sl76c (weighings0 : Int) (t12_a : Int) (out3_a : List (List Int)) (t15_c : List (List Int)) (t17_c : Int) (out3_c : List (List Int)) : TS := ⟨slots 42 [(3, .row 1003), (4, .dv (.int .i64) t12_a), (11, .dv (.int .i64) weighings0), (12, .dv (.int .i64) t12_a), (15, .dv (.sl (.arr 3 (.int .i64))) t15_c), (16, .dv (.int .i64) (((out3_a.take out3_a.length).drop 0).length : Int)), (17, .dv (.int .i64) t17_c)], [(1003, .row (.arr 3 (.int .i64)) out3_c)]⟩
def Sl76b (weighings0 : Int) (t12_a : Int) (out3_a : List (List Int)) (t15_b : Nat) (t15_ba : Nat) (t17_b : Int) (out3_b : List (List Int)) : TS := ⟨slots 42 [(3, .row 1003), (4, .dv (.int .i64) t12_a), (11, .dv (.int .i64) weighings0), (12, .dv (.int .i64) t12_a), (15, .vrow 1003 t15_b t15_ba), (16, .dv (.int .i64) (((out3_a.take out3_a.length).drop 0).length : Int)), (17, .dv (.int .i64) t17_b)], [(1003, .row (.arr 3 (.int .i64)) out3_b)]⟩
def Sl76a (weighings0 : Int) (t12_a : Int) (out3_a : List (List Int)) : TS := ⟨slots 42 [(3, .row 1003), (11, .dv (.int .i64) weighings0), (12, .dv (.int .i64) t12_a)], [(1003, .row (.arr 3 (.int .i64)) out3_a)]⟩
def l76c (want0 : List (List Int)) (N : Nat) (weighings0 : Int) (t12_a : Int) (out3_a : List (List Int)) (rec_l76a : Int → (List (List Int)) → Option (Unit)) : Nat → (List (List Int)) → Int → (List (List Int)) → Option (Unit)
  | 0, _, _, _ => none
  | n + 1, t15_c, t17_c, out3_c => cond (decide (t17_c < (((out3_a.take out3_a.length).drop 0).length : Int))) (chk (decide (0 ≤ t17_c ∧ t17_c < (t15_c.length : Int))) (chk (decide (0 ≤ t12_a ∧ t12_a < (3 : Int))) (chk ((decide (t12_a.toNat < (t15_c.getD t17_c.toNat ([(0 : Int), (0 : Int), (0 : Int)] : List Int)).length)) && (true)) (chk (decide (0 ≤ t12_a ∧ t12_a < (3 : Int))) (chk ((decide (t12_a.toNat < (t15_c.getD t17_c.toNat ([(0 : Int), (0 : Int), (0 : Int)] : List Int)).length)) && (true)) (chk (small (out3_c.length + 1) 24) (cond (!(DT.beq (.arr 3 (.int .i64)) (t15_c.getD t17_c.toNat ([(0 : Int), (0 : Int), (0 : Int)] : List Int)) ([(0 : Int), (0 : Int), (0 : Int)] : List Int))) (chk (small ((out3_c ++ ([(t15_c.getD t17_c.toNat ([(0 : Int), (0 : Int), (0 : Int)] : List Int)).set t12_a.toNat (1 : Int)] : List (List Int))).length + 1) 24) ((l76c want0 N weighings0 t12_a out3_a rec_l76a n t15_c (w64 (t17_c + (1 : Int))) ((out3_c ++ ([(t15_c.getD t17_c.toNat ([(0 : Int), (0 : Int), (0 : Int)] : List Int)).set t12_a.toNat (1 : Int)] : List (List Int))) ++ ([(t15_c.getD t17_c.toNat ([(0 : Int), (0 : Int), (0 : Int)] : List Int)).set t12_a.toNat (-1 : Int)] : List (List Int))))))
      ((l76c want0 N weighings0 t12_a out3_a rec_l76a n t15_c (w64 (t17_c + (1 : Int))) (out3_c ++ ([(t15_c.getD t17_c.toNat ([(0 : Int), (0 : Int), (0 : Int)] : List Int)).set t12_a.toNat (1 : Int)] : List (List Int))))))))))))
      ((rec_l76a (w64 (t12_a + (1 : Int))) out3_c))
theorem wl76c (want0 : List (List Int)) (N : Nat) (weighings0 : Int) (t12_a : Int) (out3_a : List (List Int)) (T76_0 : TS → Option (Unit)) (m : Nat) (t15_c : List (List Int)) (t17_c : Int) (out3_c : List (List Int)) : R76_1 want0 N T76_0 (m + 1) (Sl76c weighings0 t12_a out3_a t15_c t17_c out3_c) = cond (decide (t17_c < (((out3_a.take out3_a.length).drop 0).length : Int))) (chk (decide (0 ≤ t17_c ∧ t17_c < (t15_c.length : Int))) (chk (decide (0 ≤ t12_a ∧ t12_a < (3 : Int))) (chk ((decide (t12_a.toNat < (t15_c.getD t17_c.toNat ([(0 : Int), (0 : Int), (0 : Int)] : List Int)).length)) && (true)) (chk (decide (0 ≤ t12_a ∧ t12_a < (3 : Int))) (chk ((decide (t12_a.toNat < (t15_c.getD t17_c.toNat ([(0 : Int), (0 : Int), (0 : Int)] : List Int)).length)) && (true)) (chk (small (out3_c.length + 1) 24) (cond (!(DT.beq (.arr 3 (.int .i64)) (t15_c.getD t17_c.toNat ([(0 : Int), (0 : Int), (0 : Int)] : List Int)) ([(0 : Int), (0 : Int), (0 : Int)] : List Int))) (chk (small ((out3_c ++ ([(t15_c.getD t17_c.toNat ([(0 : Int), (0 : Int), (0 : Int)] : List Int)).set t12_a.toNat (1 : Int)] : List (List Int))).length + 1) 24) ((R76_1 want0 N T76_0 m (Sl76c weighings0 t12_a out3_a t15_c (w64 (t17_c + (1 : Int))) ((out3_c ++ ([(t15_c.getD t17_c.toNat ([(0 : Int), (0 : Int), (0 : Int)] : List Int)).set t12_a.toNat (1 : Int)] : List (List Int))) ++ ([(t15_c.getD t17_c.toNat ([(0 : Int), (0 : Int), (0 : Int)] : List Int)).set t12_a.toNat (-1 : Int)] : List (List Int)))))))
      ((R76_1 want0 N T76_0 m (Sl76c weighings0 t12_a out3_a t15_c (w64 (t17_c + (1 : Int))) (out3_c ++ ([(t15_c.getD t17_c.toNat ([(0 : Int), (0 : Int), (0 : Int)] : List Int)).set t12_a.toNat (1 : Int)] : List (List Int)))))))))))))
      ((T76_0 (Sl76a weighings0 (w64 (t12_a + (1 : Int))) out3_c))) := by kernel_rfl
theorem ql76c (want0 : List (List Int)) (N : Nat) (weighings0 : Int) (t12_a : Int) (out3_a : List (List Int)) (T76_0 : TS → Option (Unit)) : ∀ (m : Nat) (t15_c : List (List Int)) (t17_c : Int) (out3_c : List (List Int)), R76_1 want0 N T76_0 m (Sl76c weighings0 t12_a out3_a t15_c t17_c out3_c) = l76c want0 N weighings0 t12_a out3_a (fun y0 y1 => T76_0 (Sl76a weighings0 y0 y1)) m t15_c t17_c out3_c
        | 0, _, _, _ => rfl
        | m + 1, t15_c, t17_c, out3_c => by rw [wl76c]; simp only [l76c, ql76c want0 N weighings0 t12_a out3_a T76_0 m]
def l76b (want0 : List (List Int)) (N : Nat) (weighings0 : Int) (t12_a : Int) (out3_a : List (List Int)) (rec_l76a : Int → (List (List Int)) → Option (Unit)) : Nat → Nat → Nat → Int → (List (List Int)) → Option (Unit)
  | 0, _, _, _, _ => none
  | n + 1, t15_b, t15_ba, t17_b, out3_b => cond (decide (t17_b < (((out3_a.take out3_a.length).drop 0).length : Int))) (chk (decide (0 ≤ t17_b ∧ t17_b < ((t15_ba - t15_b : Nat) : Int))) (chk (decide (0 ≤ t12_a ∧ t12_a < (3 : Int))) (chk ((decide (t12_a.toNat < (out3_b.getD (t15_b + t17_b.toNat) ([(0 : Int), (0 : Int), (0 : Int)] : List Int)).length)) && (true)) (chk (decide (0 ≤ t12_a ∧ t12_a < (3 : Int))) (chk ((decide (t12_a.toNat < (out3_b.getD (t15_b + t17_b.toNat) ([(0 : Int), (0 : Int), (0 : Int)] : List Int)).length)) && (true)) (chk (small (out3_b.length + 1) 24) (Jn.jn (cond (!(DT.beq (.arr 3 (.int .i64)) (out3_b.getD (t15_b + t17_b.toNat) ([(0 : Int), (0 : Int), (0 : Int)] : List Int)) ([(0 : Int), (0 : Int), (0 : Int)] : List Int))) (chk (small ((out3_b ++ ([(out3_b.getD (t15_b + t17_b.toNat) ([(0 : Int), (0 : Int), (0 : Int)] : List Int)).set t12_a.toNat (1 : Int)] : List (List Int))).length + 1) 24) (Jn.jn ((l76b want0 N weighings0 t12_a out3_a rec_l76a n t15_b t15_ba (w64 (t17_b + (1 : Int))) ((out3_b ++ ([(out3_b.getD (t15_b + t17_b.toNat) ([(0 : Int), (0 : Int), (0 : Int)] : List Int)).set t12_a.toNat (1 : Int)] : List (List Int))) ++ ([(out3_b.getD (t15_b + t17_b.toNat) ([(0 : Int), (0 : Int), (0 : Int)] : List Int)).set t12_a.toNat (-1 : Int)] : List (List Int)))))
      ((l76c want0 N weighings0 t12_a out3_a rec_l76a n (((out3_b ++ ([(out3_b.getD (t15_b + t17_b.toNat) ([(0 : Int), (0 : Int), (0 : Int)] : List Int)).set t12_a.toNat (1 : Int)] : List (List Int))).take t15_ba).drop t15_b) (w64 (t17_b + (1 : Int))) ((out3_b ++ ([(out3_b.getD (t15_b + t17_b.toNat) ([(0 : Int), (0 : Int), (0 : Int)] : List Int)).set t12_a.toNat (1 : Int)] : List (List Int))) ++ ([(out3_b.getD (t15_b + t17_b.toNat) ([(0 : Int), (0 : Int), (0 : Int)] : List Int)).set t12_a.toNat (-1 : Int)] : List (List Int)))))))
      ((l76b want0 N weighings0 t12_a out3_a rec_l76a n t15_b t15_ba (w64 (t17_b + (1 : Int))) (out3_b ++ ([(out3_b.getD (t15_b + t17_b.toNat) ([(0 : Int), (0 : Int), (0 : Int)] : List Int)).set t12_a.toNat (1 : Int)] : List (List Int))))))
      (cond (!(DT.beq (.arr 3 (.int .i64)) (out3_b.getD (t15_b + t17_b.toNat) ([(0 : Int), (0 : Int), (0 : Int)] : List Int)) ([(0 : Int), (0 : Int), (0 : Int)] : List Int))) (chk (small ((out3_b ++ ([(out3_b.getD (t15_b + t17_b.toNat) ([(0 : Int), (0 : Int), (0 : Int)] : List Int)).set t12_a.toNat (1 : Int)] : List (List Int))).length + 1) 24) ((l76c want0 N weighings0 t12_a out3_a rec_l76a n ((out3_b.take t15_ba).drop t15_b) (w64 (t17_b + (1 : Int))) ((out3_b ++ ([(out3_b.getD (t15_b + t17_b.toNat) ([(0 : Int), (0 : Int), (0 : Int)] : List Int)).set t12_a.toNat (1 : Int)] : List (List Int))) ++ ([(out3_b.getD (t15_b + t17_b.toNat) ([(0 : Int), (0 : Int), (0 : Int)] : List Int)).set t12_a.toNat (-1 : Int)] : List (List Int))))))
      ((l76c want0 N weighings0 t12_a out3_a rec_l76a n ((out3_b.take t15_ba).drop t15_b) (w64 (t17_b + (1 : Int))) (out3_b ++ ([(out3_b.getD (t15_b + t17_b.toNat) ([(0 : Int), (0 : Int), (0 : Int)] : List Int)).set t12_a.toNat (1 : Int)] : List (List Int)))))))))))))
      ((rec_l76a (w64 (t12_a + (1 : Int))) out3_b))
theorem wl76b (want0 : List (List Int)) (N : Nat) (weighings0 : Int) (t12_a : Int) (out3_a : List (List Int)) (T76_0 : TS → Option (Unit)) (m : Nat) (t15_b : Nat) (t15_ba : Nat) (t17_b : Int) (out3_b : List (List Int)) : R76_1 want0 N T76_0 (m + 1) (Sl76b weighings0 t12_a out3_a t15_b t15_ba t17_b out3_b) = cond (decide (t17_b < (((out3_a.take out3_a.length).drop 0).length : Int))) (chk (decide (0 ≤ t17_b ∧ t17_b < ((t15_ba - t15_b : Nat) : Int))) (chk (decide (0 ≤ t12_a ∧ t12_a < (3 : Int))) (chk ((decide (t12_a.toNat < (out3_b.getD (t15_b + t17_b.toNat) ([(0 : Int), (0 : Int), (0 : Int)] : List Int)).length)) && (true)) (chk (decide (0 ≤ t12_a ∧ t12_a < (3 : Int))) (chk ((decide (t12_a.toNat < (out3_b.getD (t15_b + t17_b.toNat) ([(0 : Int), (0 : Int), (0 : Int)] : List Int)).length)) && (true)) (chk (small (out3_b.length + 1) 24) (Jn.jn (cond (!(DT.beq (.arr 3 (.int .i64)) (out3_b.getD (t15_b + t17_b.toNat) ([(0 : Int), (0 : Int), (0 : Int)] : List Int)) ([(0 : Int), (0 : Int), (0 : Int)] : List Int))) (chk (small ((out3_b ++ ([(out3_b.getD (t15_b + t17_b.toNat) ([(0 : Int), (0 : Int), (0 : Int)] : List Int)).set t12_a.toNat (1 : Int)] : List (List Int))).length + 1) 24) (Jn.jn ((R76_1 want0 N T76_0 m (Sl76b weighings0 t12_a out3_a t15_b t15_ba (w64 (t17_b + (1 : Int))) ((out3_b ++ ([(out3_b.getD (t15_b + t17_b.toNat) ([(0 : Int), (0 : Int), (0 : Int)] : List Int)).set t12_a.toNat (1 : Int)] : List (List Int))) ++ ([(out3_b.getD (t15_b + t17_b.toNat) ([(0 : Int), (0 : Int), (0 : Int)] : List Int)).set t12_a.toNat (-1 : Int)] : List (List Int))))))
      ((R76_1 want0 N T76_0 m (Sl76c weighings0 t12_a out3_a (((out3_b ++ ([(out3_b.getD (t15_b + t17_b.toNat) ([(0 : Int), (0 : Int), (0 : Int)] : List Int)).set t12_a.toNat (1 : Int)] : List (List Int))).take t15_ba).drop t15_b) (w64 (t17_b + (1 : Int))) ((out3_b ++ ([(out3_b.getD (t15_b + t17_b.toNat) ([(0 : Int), (0 : Int), (0 : Int)] : List Int)).set t12_a.toNat (1 : Int)] : List (List Int))) ++ ([(out3_b.getD (t15_b + t17_b.toNat) ([(0 : Int), (0 : Int), (0 : Int)] : List Int)).set t12_a.toNat (-1 : Int)] : List (List Int))))))))
      ((R76_1 want0 N T76_0 m (Sl76b weighings0 t12_a out3_a t15_b t15_ba (w64 (t17_b + (1 : Int))) (out3_b ++ ([(out3_b.getD (t15_b + t17_b.toNat) ([(0 : Int), (0 : Int), (0 : Int)] : List Int)).set t12_a.toNat (1 : Int)] : List (List Int)))))))
      (cond (!(DT.beq (.arr 3 (.int .i64)) (out3_b.getD (t15_b + t17_b.toNat) ([(0 : Int), (0 : Int), (0 : Int)] : List Int)) ([(0 : Int), (0 : Int), (0 : Int)] : List Int))) (chk (small ((out3_b ++ ([(out3_b.getD (t15_b + t17_b.toNat) ([(0 : Int), (0 : Int), (0 : Int)] : List Int)).set t12_a.toNat (1 : Int)] : List (List Int))).length + 1) 24) ((R76_1 want0 N T76_0 m (Sl76c weighings0 t12_a out3_a ((out3_b.take t15_ba).drop t15_b) (w64 (t17_b + (1 : Int))) ((out3_b ++ ([(out3_b.getD (t15_b + t17_b.toNat) ([(0 : Int), (0 : Int), (0 : Int)] : List Int)).set t12_a.toNat (1 : Int)] : List (List Int))) ++ ([(out3_b.getD (t15_b + t17_b.toNat) ([(0 : Int), (0 : Int), (0 : Int)] : List Int)).set t12_a.toNat (-1 : Int)] : List (List Int)))))))
      ((R76_1 want0 N T76_0 m (Sl76c weighings0 t12_a out3_a ((out3_b.take t15_ba).drop t15_b) (w64 (t17_b + (1 : Int))) (out3_b ++ ([(out3_b.getD (t15_b + t17_b.toNat) ([(0 : Int), (0 : Int), (0 : Int)] : List Int)).set t12_a.toNat (1 : Int)] : List (List Int))))))))))))))
      ((T76_0 (Sl76a weighings0 (w64 (t12_a + (1 : Int))) out3_b))) := by kernel_rfl
theorem ql76b (want0 : List (List Int)) (N : Nat) (weighings0 : Int) (t12_a : Int) (out3_a : List (List Int)) (T76_0 : TS → Option (Unit)) : ∀ (m : Nat) (t15_b : Nat) (t15_ba : Nat) (t17_b : Int) (out3_b : List (List Int)), R76_1 want0 N T76_0 m (Sl76b weighings0 t12_a out3_a t15_b t15_ba t17_b out3_b) = l76b want0 N weighings0 t12_a out3_a (fun y0 y1 => T76_0 (Sl76a weighings0 y0 y1)) m t15_b t15_ba t17_b out3_b
        | 0, _, _, _, _ => rfl
        | m + 1, t15_b, t15_ba, t17_b, out3_b => by rw [wl76b]; simp only [l76b, ql76c, ql76b want0 N weighings0 t12_a out3_a T76_0 m]
def l76a (want0 : List (List Int)) (N : Nat) (weighings0 : Int) : Nat → Int → (List (List Int)) → Option (Unit)
  | 0, _, _ => none
  | n + 1, t12_a, out3_a => cond (decide (t12_a < weighings0)) (Jn.jn ((l76b want0 N weighings0 t12_a out3_a (fun y0 y1 => (l76a want0 N weighings0 n y0 y1)) N 0 out3_a.length (0 : Int) out3_a))
      ((l76b want0 N weighings0 t12_a out3_a (fun y0 y1 => (l76a want0 N weighings0 n y0 y1)) N 0 out3_a.length (0 : Int) out3_a)))
      (chk (decide (0 ≤ (1 : Int) ∧ (1 : Int) ≤ (out3_a.length : Int))) (chk (decide (((out3_a.take out3_a.length).drop 1) = want0)) (some ())))
theorem wl76a (want0 : List (List Int)) (N : Nat) (weighings0 : Int) (m : Nat) (t12_a : Int) (out3_a : List (List Int)) : R76_0 want0 N (m + 1) (Sl76a weighings0 t12_a out3_a) = cond (decide (t12_a < weighings0)) (Jn.jn ((R76_1 want0 N (R76_0 want0 N m) N (Sl76b weighings0 t12_a out3_a 0 out3_a.length (0 : Int) out3_a)))
      ((R76_1 want0 N (R76_0 want0 N m) N (Sl76b weighings0 t12_a out3_a 0 out3_a.length (0 : Int) out3_a))))
      (chk (decide (0 ≤ (1 : Int) ∧ (1 : Int) ≤ (out3_a.length : Int))) (chk (decide (((out3_a.take out3_a.length).drop 1) = want0)) (some ()))) := by kernel_rfl
theorem ql76a (want0 : List (List Int)) (N : Nat) (weighings0 : Int) : ∀ (m : Nat) (t12_a : Int) (out3_a : List (List Int)), R76_0 want0 N m (Sl76a weighings0 t12_a out3_a) = l76a want0 N weighings0 m t12_a out3_a
        | 0, _, _ => rfl
        | m + 1, t12_a, out3_a => by rw [wl76a]; simp only [l76a, ql76b, ql76a want0 N weighings0 m]
def m76 (want0 : List (List Int)) (N : Nat) (weighings0 : Int) : Option (Unit) :=
      (l76a want0 N weighings0 N (0 : Int) ([([(0 : Int), (0 : Int), (0 : Int)] : List Int)] : List (List Int)))
theorem wm76 (want0 : List (List Int)) (N : Nat) (weighings0 : Int) : callF (E76 want0) lv76 N en76 c76 (resOf Try.f76) 41 [.dv (.int .i64) weighings0] [] (dec76 want0) = (R76_0 want0 N N (Sl76a weighings0 (0 : Int) ([([(0 : Int), (0 : Int), (0 : Int)] : List Int)] : List (List Int)))) := by kernel_rfl
theorem k76 (want0 : List (List Int)) (N : Nat) (weighings0 : Int) : callF (E76 want0) lv76 N en76 c76 (resOf Try.f76) 41 [.dv (.int .i64) weighings0] [] (dec76 want0) = m76 want0 N weighings0 := by rw [wm76]; simp only [m76, ql76a]
theorem ok76 (a : Int → Option (List (List Int))) (h : ∀ weighings0 r, a weighings0 = some r → ∃ N, m76 r N weighings0 = some ()) : FnOk Try.prog 76 (F76 a) := by
  intro args Of r hx
  simp only [F76] at hx
  split at hx
  · rename_i weighings0
    obtain ⟨N, hN⟩ := h _ _ hx
    refine liftedW (L := []) (rc := nrc) (fz := nfz) (tw := fun i => ([(15, 15), (30, 15), (37, 15)] : List (Nat × Nat)).lookup i) (fn := Try.f76) (by kernel_rfl) (by kernel_rfl) (by kernel_rfl) (by kernel_rfl) rfl ?_ ((k76 r N _).trans hN) ?_
    · intro p hp; cases hp
    · intro l o hd
      simp only [dec76] at hd
      split at hd
      · have hq := (chk_some hd).1
        simp only [Bool.and_eq_true, decide_eq_true_eq] at hq
        subst hq
        exact ⟨rfl, rfl⟩
      · cases hd
  · cases hx
def E41w0 (a57 : Int → Int → Int → Option (Bool)) (a75 : (List (List Int)) → Int → (List Int) → (List Int) → Int → Option (List (List Int) × Bool)) (a76 : Int → Option (List (List Int))) : Env := mkE TI TY [(57, F57 a57), (75, F75 a75), (76, F76 a76)] (fun i => ([(33, [])] : List (Nat × List (Option DT))).lookup i) nfz
noncomputable def c41w0 : Code := bodyOf Try.f41
def nm41w0_0 : Norm := ⟨[1, 8, 34, 35, 36], [33, 1271500], [], []⟩
def nm41w0_1 : Norm := ⟨[1, 8, 9, 10, 34, 35, 36, 41, 42], [33, 10, 1271500], [], []⟩
def lv41w0 : Nat → Option Norm := norms [(8, nm41w0_0), (11, nm41w0_1)]
def en41w0 : End := ⟨[(79, .sl (.pair (.sl (.int .i64)) (.pair (.sl (.int .i64)) (.unit))))], ⟨[79, 80], [], [], []⟩⟩
def dec41w0 (l : List TV) (o : List (Nat × TO)) : Option (List (List Int × List Int × Unit) × Int) := match l, o with | [.dv (.sl (.pair (.sl (.int .i64)) (.pair (.sl (.int .i64)) (.unit)))) x0, .dv (.int .i64) x1], [] => some (x0, x1) | _, _ => none
noncomputable def K41w0_0 (a57 : Int → Int → Int → Option (Bool)) (a75 : (List (List Int)) → Int → (List Int) → (List Int) → Int → Option (List (List Int) × Bool)) (a76 : Int → Option (List (List Int))) (N : Nat) : Kont (List (List Int × List Int × Unit) × Int) := kont (E41w0 a57 a75 a76) lv41w0 N c41w0 [1, 1, 1, 1, 1, 0, 1, 0] (fin TI en41w0 (resOf Try.f41) dec41w0)
noncomputable def R41w0_0 (a57 : Int → Int → Int → Option (Bool)) (a75 : (List (List Int)) → Int → (List Int) → (List Int) → Int → Option (List (List Int) × Bool)) (a76 : Int → Option (List (List Int))) (N : Nat) (m : Nat) : TS → Option (List (List Int × List Int × Unit) × Int) := loopK (den (E41w0 a57 a75 a76) lv41w0 N (sub c41w0 [1, 1, 1, 1, 1, 0, 1, 0, 0])) (TS.norm nm41w0_0) (K41w0_0 a57 a75 a76 N) m
noncomputable def K41w0_1 (a57 : Int → Int → Int → Option (Bool)) (a75 : (List (List Int)) → Int → (List Int) → (List Int) → Int → Option (List (List Int) × Bool)) (a76 : Int → Option (List (List Int))) (N : Nat) (T41w0_0 : TS → Option (List (List Int × List Int × Unit) × Int)) : Kont (List (List Int × List Int × Unit) × Int) := kont (E41w0 a57 a75 a76) lv41w0 N (sub c41w0 [1, 1, 1, 1, 1, 0, 1, 0, 0]) [1, 1, 0, 0, 1, 1, 0] (kloop (TS.norm nm41w0_0) (K41w0_0 a57 a75 a76 N) T41w0_0)
noncomputable def R41w0_1 (a57 : Int → Int → Int → Option (Bool)) (a75 : (List (List Int)) → Int → (List Int) → (List Int) → Int → Option (List (List Int) × Bool)) (a76 : Int → Option (List (List Int))) (N : Nat) (T41w0_0 : TS → Option (List (List Int × List Int × Unit) × Int)) (m : Nat) : TS → Option (List (List Int × List Int × Unit) × Int) := loopK (den (E41w0 a57 a75 a76) lv41w0 N (sub c41w0 [1, 1, 1, 1, 1, 0, 1, 0, 0, 1, 1, 0, 0, 1, 1, 0, 0])) (TS.norm nm41w0_1) (K41w0_1 a57 a75 a76 N T41w0_0) m
def Sl41w0b (r4 : List (List Int) × Bool) (t36_a : Int) : TS := ⟨slots 79 [(1, .dv (.int .i64) (0 : Int)), (8, .view 33 0 [] 2 0 0 0), (9, .dv (.int .i64) t36_a), (10, .ptr 10 0 []), (34, .row 1271500), (35, .dv (.int .i64) (r4.1.length : Int)), (36, .dv (.int .i64) t36_a), (41, .dv (.int .i64) (0 : Int)), (42, .dv (.int .i64) (0 : Int))], [(33, .rcd []), (10, .row (.arr 3 (.int .i64)) ([r4.1.getD t36_a.toNat ([(0 : Int), (0 : Int), (0 : Int)] : List Int)] : List (List Int))), (1271500, .row (.arr 3 (.int .i64)) r4.1)]⟩
def Sl41w0a (r4 : List (List Int) × Bool) (t36_a : Int) : TS := ⟨slots 79 [(1, .dv (.int .i64) (0 : Int)), (8, .view 33 0 [] 2 0 0 0), (34, .row 1271500), (35, .dv (.int .i64) (r4.1.length : Int)), (36, .dv (.int .i64) t36_a)], [(33, .rcd []), (1271500, .row (.arr 3 (.int .i64)) r4.1)]⟩
def l41w0b (a57 : Int → Int → Int → Option (Bool)) (a75 : (List (List Int)) → Int → (List Int) → (List Int) → Int → Option (List (List Int) × Bool)) (a76 : Int → Option (List (List Int))) (N : Nat) (r4 : List (List Int) × Bool) (t36_a : Int) (rec_l41w0a : Int → Option (List (List Int × List Int × Unit) × Int)) : Nat → Option (List (List Int × List Int × Unit) × Int)
  | 0 => none
  | n + 1 => (rec_l41w0a (w64 (t36_a + (1 : Int))))
theorem wl41w0b (a57 : Int → Int → Int → Option (Bool)) (a75 : (List (List Int)) → Int → (List Int) → (List Int) → Int → Option (List (List Int) × Bool)) (a76 : Int → Option (List (List Int))) (N : Nat) (r4 : List (List Int) × Bool) (t36_a : Int) (T41w0_0 : TS → Option (List (List Int × List Int × Unit) × Int)) (m : Nat) : R41w0_1 a57 a75 a76 N T41w0_0 (m + 1) (Sl41w0b r4 t36_a) = (T41w0_0 (Sl41w0a r4 (w64 (t36_a + (1 : Int))))) := by kernel_rfl
theorem ql41w0b (a57 : Int → Int → Int → Option (Bool)) (a75 : (List (List Int)) → Int → (List Int) → (List Int) → Int → Option (List (List Int) × Bool)) (a76 : Int → Option (List (List Int))) (N : Nat) (r4 : List (List Int) × Bool) (t36_a : Int) (T41w0_0 : TS → Option (List (List Int × List Int × Unit) × Int)) : ∀ (m : Nat), R41w0_1 a57 a75 a76 N T41w0_0 m (Sl41w0b r4 t36_a) = l41w0b a57 a75 a76 N r4 t36_a (fun y0 => T41w0_0 (Sl41w0a r4 y0)) m
        | 0 => rfl
        | m + 1 => by rw [wl41w0b]; simp only [l41w0b, ql41w0b a57 a75 a76 N r4 t36_a T41w0_0 m]
def l41w0a (a57 : Int → Int → Int → Option (Bool)) (a75 : (List (List Int)) → Int → (List Int) → (List Int) → Int → Option (List (List Int) × Bool)) (a76 : Int → Option (List (List Int))) (N : Nat) (r4 : List (List Int) × Bool) : Nat → Int → Option (List (List Int × List Int × Unit) × Int)
  | 0, _ => none
  | n + 1, t36_a => cond (decide (t36_a < (r4.1.length : Int))) (chk (decide (0 ≤ t36_a ∧ t36_a < (r4.1.length : Int))) ((l41w0b a57 a75 a76 N r4 t36_a (fun y0 => (l41w0a a57 a75 a76 N r4 n y0)) N)))
      (some (([] : List (List Int × List Int × Unit)), (0 : Int)))
theorem wl41w0a (a57 : Int → Int → Int → Option (Bool)) (a75 : (List (List Int)) → Int → (List Int) → (List Int) → Int → Option (List (List Int) × Bool)) (a76 : Int → Option (List (List Int))) (N : Nat) (r4 : List (List Int) × Bool) (m : Nat) (t36_a : Int) : R41w0_0 a57 a75 a76 N (m + 1) (Sl41w0a r4 t36_a) = cond (decide (t36_a < (r4.1.length : Int))) (chk (decide (0 ≤ t36_a ∧ t36_a < (r4.1.length : Int))) ((R41w0_1 a57 a75 a76 N (R41w0_0 a57 a75 a76 N m) N (Sl41w0b r4 t36_a))))
      (some (([] : List (List Int × List Int × Unit)), (0 : Int))) := by kernel_rfl
theorem ql41w0a (a57 : Int → Int → Int → Option (Bool)) (a75 : (List (List Int)) → Int → (List Int) → (List Int) → Int → Option (List (List Int) × Bool)) (a76 : Int → Option (List (List Int))) (N : Nat) (r4 : List (List Int) × Bool) : ∀ (m : Nat) (t36_a : Int), R41w0_0 a57 a75 a76 N m (Sl41w0a r4 t36_a) = l41w0a a57 a75 a76 N r4 m t36_a
        | 0, _ => rfl
        | m + 1, t36_a => by rw [wl41w0a]; simp only [l41w0a, ql41w0b, ql41w0a a57 a75 a76 N r4 m]
def m41w0 (a57 : Int → Int → Int → Option (Bool)) (a75 : (List (List Int)) → Int → (List Int) → (List Int) → Int → Option (List (List Int) × Bool)) (a76 : Int → Option (List (List Int))) (N : Nat) (stones0 : Int) : Option (List (List Int × List Int × Unit) × Int) :=
      (a57 (1 : Int) stones0 (13 : Int)).bind fun r1 =>
      cond (!r1) (some (([] : List (List Int × List Int × Unit)), (3 : Int)))
      ((a57 (0 : Int) (0 : Int) (3 : Int)).bind fun r2 =>
      cond (!r2) (some (([] : List (List Int × List Int × Unit)), (3 : Int)))
      ((a76 (0 : Int)).bind fun r3 =>
      (a75 r3 stones0 ([(0 : Int), (0 : Int), (0 : Int)] : List Int) ([(0 : Int), (0 : Int), (0 : Int)] : List Int) (0 : Int)).bind fun r4 =>
      cond (!r4.2) (some (([] : List (List Int × List Int × Unit)), (14 : Int)))
      ((l41w0a a57 a75 a76 N r4 N (0 : Int)))))
theorem wm41w0 (a57 : Int → Int → Int → Option (Bool)) (a75 : (List (List Int)) → Int → (List Int) → (List Int) → Int → Option (List (List Int) × Bool)) (a76 : Int → Option (List (List Int))) (N : Nat) (stones0 : Int) : callF (E41w0 a57 a75 a76) lv41w0 N en41w0 c41w0 (resOf Try.f41) 77 [.dv (.int .i64) stones0, .dv (.int .i64) (0 : Int)] [] dec41w0 = (a57 (1 : Int) stones0 (13 : Int)).bind fun r1 =>
      cond (!r1) (some (([] : List (List Int × List Int × Unit)), (3 : Int)))
      ((a57 (0 : Int) (0 : Int) (3 : Int)).bind fun r2 =>
      cond (!r2) (some (([] : List (List Int × List Int × Unit)), (3 : Int)))
      ((a76 (0 : Int)).bind fun r3 =>
      (a75 r3 stones0 ([(0 : Int), (0 : Int), (0 : Int)] : List Int) ([(0 : Int), (0 : Int), (0 : Int)] : List Int) (0 : Int)).bind fun r4 =>
      cond (!r4.2) (some (([] : List (List Int × List Int × Unit)), (14 : Int)))
      ((R41w0_0 a57 a75 a76 N N (Sl41w0a r4 (0 : Int)))))) := by kernel_rfl
theorem k41w0 (a57 : Int → Int → Int → Option (Bool)) (a75 : (List (List Int)) → Int → (List Int) → (List Int) → Int → Option (List (List Int) × Bool)) (a76 : Int → Option (List (List Int))) (N : Nat) (stones0 : Int) : callF (E41w0 a57 a75 a76) lv41w0 N en41w0 c41w0 (resOf Try.f41) 77 [.dv (.int .i64) stones0, .dv (.int .i64) (0 : Int)] [] dec41w0 = m41w0 a57 a75 a76 N stones0 := by rw [wm41w0]; simp only [m41w0, ql41w0a]
theorem hs41w0 (a57 : Int → Int → Int → Option (Bool)) (a75 : (List (List Int)) → Int → (List Int) → (List Int) → Int → Option (List (List Int) × Bool)) (a76 : Int → Option (List (List Int))) (h57 : FnOk Try.prog 57 (F57 a57)) (h75 : FnOk Try.prog 75 (F75 a75)) (h76 : FnOk Try.prog 76 (F76 a76)) (N : Nat) (stones0 : Int) (r : List (List Int × List Int × Unit) × Int) (hN : m41w0 a57 a75 a76 N stones0 = some r) : HSpec Try.prog 41 [.dv (.int .i64) stones0, .dv (.int .i64) (0 : Int)] [] fun x o => x = (.tup 2 fun i => ([.dv (.sl (.pair (.sl (.int .i64)) (.pair (.sl (.int .i64)) (.unit)))) r.1, .dv (.int .i64) r.2] : List TV).getD i .any : TV) ∧ o = [] := by
  refine lifted (L := [(57, F57 a57), (75, F75 a75), (76, F76 a76)]) (rc := (fun i => ([(33, [])] : List (Nat × List (Option DT))).lookup i)) (fz := nfz) (fn := Try.f41) (by kernel_rfl) (by kernel_rfl) (by kernel_rfl) (by kernel_rfl) rfl ?_ ((k41w0 a57 a75 a76 N _).trans hN) ?_
  · intro p hp; simp only [List.mem_cons, List.not_mem_nil, or_false] at hp; rcases hp with rfl | rfl | rfl
    · exact h57
    · exact h75
    · exact h76
  · intro l o hd
    simp only [dec41w0] at hd
    split at hd
    · obtain rfl := Option.some.inj hd; exact ⟨rfl, rfl⟩
    · cases hd
def E41w1 (a57 : Int → Int → Int → Option (Bool)) (a75 : (List (List Int)) → Int → (List Int) → (List Int) → Int → Option (List (List Int) × Bool)) (a76 : Int → Option (List (List Int))) : Env := mkE TI TY [(57, F57 a57), (75, F75 a75), (76, F76 a76)] (fun i => ([(33, [])] : List (Nat × List (Option DT))).lookup i) nfz
noncomputable def c41w1 : Code := bodyOf Try.f41
def nm41w1_0 : Norm := ⟨[1, 8, 34, 35, 36], [33, 1271500], [(.fld 33 0, 2100, .int .i64), (.fld 33 1, 2101, .int .i64)], []⟩
def nm41w1_1 : Norm := ⟨[1, 8, 9, 10, 34, 35, 36, 41, 42], [33, 10, 1271500], [(.fld 33 0, 2100, .int .i64), (.fld 33 1, 2101, .int .i64)], []⟩
def lv41w1 : Nat → Option Norm := norms [(8, nm41w1_0), (11, nm41w1_1)]
def en41w1 : End := ⟨[(79, .sl (.pair (.sl (.int .i64)) (.pair (.sl (.int .i64)) (.unit))))], ⟨[79, 80], [], [], []⟩⟩
def dec41w1 (l : List TV) (o : List (Nat × TO)) : Option (List (List Int × List Int × Unit) × Int) := match l, o with | [.dv (.sl (.pair (.sl (.int .i64)) (.pair (.sl (.int .i64)) (.unit)))) x0, .dv (.int .i64) x1], [] => some (x0, x1) | _, _ => none
noncomputable def K41w1_0 (a57 : Int → Int → Int → Option (Bool)) (a75 : (List (List Int)) → Int → (List Int) → (List Int) → Int → Option (List (List Int) × Bool)) (a76 : Int → Option (List (List Int))) (N : Nat) : Kont (List (List Int × List Int × Unit) × Int) := kont (E41w1 a57 a75 a76) lv41w1 N c41w1 [1, 1, 1, 1, 1, 0, 1, 0] (fin TI en41w1 (resOf Try.f41) dec41w1)
noncomputable def R41w1_0 (a57 : Int → Int → Int → Option (Bool)) (a75 : (List (List Int)) → Int → (List Int) → (List Int) → Int → Option (List (List Int) × Bool)) (a76 : Int → Option (List (List Int))) (N : Nat) (m : Nat) : TS → Option (List (List Int × List Int × Unit) × Int) := loopK (den (E41w1 a57 a75 a76) lv41w1 N (sub c41w1 [1, 1, 1, 1, 1, 0, 1, 0, 0])) (TS.norm nm41w1_0) (K41w1_0 a57 a75 a76 N) m
noncomputable def K41w1_1 (a57 : Int → Int → Int → Option (Bool)) (a75 : (List (List Int)) → Int → (List Int) → (List Int) → Int → Option (List (List Int) × Bool)) (a76 : Int → Option (List (List Int))) (N : Nat) (T41w1_0 : TS → Option (List (List Int × List Int × Unit) × Int)) : Kont (List (List Int × List Int × Unit) × Int) := kont (E41w1 a57 a75 a76) lv41w1 N (sub c41w1 [1, 1, 1, 1, 1, 0, 1, 0, 0]) [1, 1, 0, 0, 1, 1, 0] (kloop (TS.norm nm41w1_0) (K41w1_0 a57 a75 a76 N) T41w1_0)
noncomputable def R41w1_1 (a57 : Int → Int → Int → Option (Bool)) (a75 : (List (List Int)) → Int → (List Int) → (List Int) → Int → Option (List (List Int) × Bool)) (a76 : Int → Option (List (List Int))) (N : Nat) (T41w1_0 : TS → Option (List (List Int × List Int × Unit) × Int)) (m : Nat) : TS → Option (List (List Int × List Int × Unit) × Int) := loopK (den (E41w1 a57 a75 a76) lv41w1 N (sub c41w1 [1, 1, 1, 1, 1, 0, 1, 0, 0, 1, 1, 0, 0, 1, 1, 0, 0])) (TS.norm nm41w1_1) (K41w1_1 a57 a75 a76 N T41w1_0) m
def Sl41w1c (r4 : List (List Int) × Bool) (t36_a : Int) (o2100_c : List Int) (o2101_c : List Int) : TS := ⟨slots 79 [(1, .dv (.int .i64) (1 : Int)), (8, .view 33 0 [] 2 1 0 1), (9, .dv (.int .i64) t36_a), (10, .ptr 10 0 []), (34, .row 1271500), (35, .dv (.int .i64) (r4.1.length : Int)), (36, .dv (.int .i64) t36_a), (41, .dv (.int .i64) (1 : Int)), (42, .dv (.int .i64) (1 : Int))], [(2100, .row (.int .i64) o2100_c), (2101, .row (.int .i64) o2101_c), (33, .rcd [.row 2100, .row 2101]), (10, .row (.arr 3 (.int .i64)) ([r4.1.getD t36_a.toNat ([(0 : Int), (0 : Int), (0 : Int)] : List Int)] : List (List Int))), (1271500, .row (.arr 3 (.int .i64)) r4.1)]⟩
def Sl41w1b (r4 : List (List Int) × Bool) (t36_a : Int) (o2100_b : List Int) (o2101_b : List Int) : TS := ⟨slots 79 [(1, .dv (.int .i64) (1 : Int)), (8, .view 33 0 [] 2 1 0 1), (9, .dv (.int .i64) t36_a), (10, .ptr 10 0 []), (34, .row 1271500), (35, .dv (.int .i64) (r4.1.length : Int)), (36, .dv (.int .i64) t36_a), (41, .dv (.int .i64) (1 : Int)), (42, .dv (.int .i64) (0 : Int))], [(2100, .row (.int .i64) o2100_b), (2101, .row (.int .i64) o2101_b), (33, .rcd [.row 2100, .row 2101]), (10, .row (.arr 3 (.int .i64)) ([r4.1.getD t36_a.toNat ([(0 : Int), (0 : Int), (0 : Int)] : List Int)] : List (List Int))), (1271500, .row (.arr 3 (.int .i64)) r4.1)]⟩
def Sl41w1a (r4 : List (List Int) × Bool) (t36_a : Int) (o2100_a : List Int) (o2101_a : List Int) : TS := ⟨slots 79 [(1, .dv (.int .i64) (1 : Int)), (8, .view 33 0 [] 2 1 0 1), (34, .row 1271500), (35, .dv (.int .i64) (r4.1.length : Int)), (36, .dv (.int .i64) t36_a)], [(2100, .row (.int .i64) o2100_a), (2101, .row (.int .i64) o2101_a), (33, .rcd [.row 2100, .row 2101]), (1271500, .row (.arr 3 (.int .i64)) r4.1)]⟩
def l41w1c (a57 : Int → Int → Int → Option (Bool)) (a75 : (List (List Int)) → Int → (List Int) → (List Int) → Int → Option (List (List Int) × Bool)) (a76 : Int → Option (List (List Int))) (N : Nat) (r4 : List (List Int) × Bool) (t36_a : Int) (rec_l41w1a : Int → (List Int) → (List Int) → Option (List (List Int × List Int × Unit) × Int)) : Nat → (List Int) → (List Int) → Option (List (List Int × List Int × Unit) × Int)
  | 0, _, _ => none
  | n + 1, o2100_c, o2101_c => (rec_l41w1a (w64 (t36_a + (1 : Int))) o2100_c o2101_c)
theorem wl41w1c (a57 : Int → Int → Int → Option (Bool)) (a75 : (List (List Int)) → Int → (List Int) → (List Int) → Int → Option (List (List Int) × Bool)) (a76 : Int → Option (List (List Int))) (N : Nat) (r4 : List (List Int) × Bool) (t36_a : Int) (T41w1_0 : TS → Option (List (List Int × List Int × Unit) × Int)) (m : Nat) (o2100_c : List Int) (o2101_c : List Int) : R41w1_1 a57 a75 a76 N T41w1_0 (m + 1) (Sl41w1c r4 t36_a o2100_c o2101_c) = (T41w1_0 (Sl41w1a r4 (w64 (t36_a + (1 : Int))) o2100_c o2101_c)) := by kernel_rfl
theorem ql41w1c (a57 : Int → Int → Int → Option (Bool)) (a75 : (List (List Int)) → Int → (List Int) → (List Int) → Int → Option (List (List Int) × Bool)) (a76 : Int → Option (List (List Int))) (N : Nat) (r4 : List (List Int) × Bool) (t36_a : Int) (T41w1_0 : TS → Option (List (List Int × List Int × Unit) × Int)) : ∀ (m : Nat) (o2100_c : List Int) (o2101_c : List Int), R41w1_1 a57 a75 a76 N T41w1_0 m (Sl41w1c r4 t36_a o2100_c o2101_c) = l41w1c a57 a75 a76 N r4 t36_a (fun y0 y1 y2 => T41w1_0 (Sl41w1a r4 y0 y1 y2)) m o2100_c o2101_c
        | 0, _, _ => rfl
        | m + 1, o2100_c, o2101_c => by rw [wl41w1c]; simp only [l41w1c, ql41w1c a57 a75 a76 N r4 t36_a T41w1_0 m]
def l41w1b (a57 : Int → Int → Int → Option (Bool)) (a75 : (List (List Int)) → Int → (List Int) → (List Int) → Int → Option (List (List Int) × Bool)) (a76 : Int → Option (List (List Int))) (N : Nat) (r4 : List (List Int) × Bool) (t36_a : Int) (rec_l41w1a : Int → (List Int) → (List Int) → Option (List (List Int × List Int × Unit) × Int)) : Nat → (List Int) → (List Int) → Option (List (List Int × List Int × Unit) × Int)
  | 0, _, _ => none
  | n + 1, o2100_b, o2101_b => cond (((r4.1.getD t36_a.toNat ([(0 : Int), (0 : Int), (0 : Int)] : List Int)).getD 0 (0 : Int)) == (-1 : Int)) (chk (small (o2100_b.length + 1) 8) ((l41w1c a57 a75 a76 N r4 t36_a rec_l41w1a n (o2100_b ++ ([t36_a] : List Int)) o2101_b)))
      (cond (((r4.1.getD t36_a.toNat ([(0 : Int), (0 : Int), (0 : Int)] : List Int)).getD 0 (0 : Int)) == (1 : Int)) (chk (small (o2101_b.length + 1) 8) ((l41w1c a57 a75 a76 N r4 t36_a rec_l41w1a n o2100_b (o2101_b ++ ([t36_a] : List Int)))))
      ((l41w1c a57 a75 a76 N r4 t36_a rec_l41w1a n o2100_b o2101_b)))
theorem wl41w1b (a57 : Int → Int → Int → Option (Bool)) (a75 : (List (List Int)) → Int → (List Int) → (List Int) → Int → Option (List (List Int) × Bool)) (a76 : Int → Option (List (List Int))) (N : Nat) (r4 : List (List Int) × Bool) (t36_a : Int) (T41w1_0 : TS → Option (List (List Int × List Int × Unit) × Int)) (m : Nat) (o2100_b : List Int) (o2101_b : List Int) : R41w1_1 a57 a75 a76 N T41w1_0 (m + 1) (Sl41w1b r4 t36_a o2100_b o2101_b) = cond (((r4.1.getD t36_a.toNat ([(0 : Int), (0 : Int), (0 : Int)] : List Int)).getD 0 (0 : Int)) == (-1 : Int)) (chk (small (o2100_b.length + 1) 8) ((R41w1_1 a57 a75 a76 N T41w1_0 m (Sl41w1c r4 t36_a (o2100_b ++ ([t36_a] : List Int)) o2101_b))))
      (cond (((r4.1.getD t36_a.toNat ([(0 : Int), (0 : Int), (0 : Int)] : List Int)).getD 0 (0 : Int)) == (1 : Int)) (chk (small (o2101_b.length + 1) 8) ((R41w1_1 a57 a75 a76 N T41w1_0 m (Sl41w1c r4 t36_a o2100_b (o2101_b ++ ([t36_a] : List Int))))))
      ((R41w1_1 a57 a75 a76 N T41w1_0 m (Sl41w1c r4 t36_a o2100_b o2101_b)))) := by kernel_rfl
theorem ql41w1b (a57 : Int → Int → Int → Option (Bool)) (a75 : (List (List Int)) → Int → (List Int) → (List Int) → Int → Option (List (List Int) × Bool)) (a76 : Int → Option (List (List Int))) (N : Nat) (r4 : List (List Int) × Bool) (t36_a : Int) (T41w1_0 : TS → Option (List (List Int × List Int × Unit) × Int)) : ∀ (m : Nat) (o2100_b : List Int) (o2101_b : List Int), R41w1_1 a57 a75 a76 N T41w1_0 m (Sl41w1b r4 t36_a o2100_b o2101_b) = l41w1b a57 a75 a76 N r4 t36_a (fun y0 y1 y2 => T41w1_0 (Sl41w1a r4 y0 y1 y2)) m o2100_b o2101_b
        | 0, _, _ => rfl
        | m + 1, o2100_b, o2101_b => by rw [wl41w1b]; simp only [l41w1b, ql41w1c, ql41w1b a57 a75 a76 N r4 t36_a T41w1_0 m]
def l41w1a (a57 : Int → Int → Int → Option (Bool)) (a75 : (List (List Int)) → Int → (List Int) → (List Int) → Int → Option (List (List Int) × Bool)) (a76 : Int → Option (List (List Int))) (N : Nat) (r4 : List (List Int) × Bool) : Nat → Int → (List Int) → (List Int) → Option (List (List Int × List Int × Unit) × Int)
  | 0, _, _, _ => none
  | n + 1, t36_a, o2100_a, o2101_a => cond (decide (t36_a < (r4.1.length : Int))) (chk (decide (0 ≤ t36_a ∧ t36_a < (r4.1.length : Int))) ((l41w1b a57 a75 a76 N r4 t36_a (fun y0 y1 y2 => (l41w1a a57 a75 a76 N r4 n y0 y1 y2)) N o2100_a o2101_a)))
      (some (([(o2100_a, (o2101_a, ()))] : List (List Int × List Int × Unit)), (0 : Int)))
theorem wl41w1a (a57 : Int → Int → Int → Option (Bool)) (a75 : (List (List Int)) → Int → (List Int) → (List Int) → Int → Option (List (List Int) × Bool)) (a76 : Int → Option (List (List Int))) (N : Nat) (r4 : List (List Int) × Bool) (m : Nat) (t36_a : Int) (o2100_a : List Int) (o2101_a : List Int) : R41w1_0 a57 a75 a76 N (m + 1) (Sl41w1a r4 t36_a o2100_a o2101_a) = cond (decide (t36_a < (r4.1.length : Int))) (chk (decide (0 ≤ t36_a ∧ t36_a < (r4.1.length : Int))) ((R41w1_1 a57 a75 a76 N (R41w1_0 a57 a75 a76 N m) N (Sl41w1b r4 t36_a o2100_a o2101_a))))
      (some (([(o2100_a, (o2101_a, ()))] : List (List Int × List Int × Unit)), (0 : Int))) := by kernel_rfl
theorem ql41w1a (a57 : Int → Int → Int → Option (Bool)) (a75 : (List (List Int)) → Int → (List Int) → (List Int) → Int → Option (List (List Int) × Bool)) (a76 : Int → Option (List (List Int))) (N : Nat) (r4 : List (List Int) × Bool) : ∀ (m : Nat) (t36_a : Int) (o2100_a : List Int) (o2101_a : List Int), R41w1_0 a57 a75 a76 N m (Sl41w1a r4 t36_a o2100_a o2101_a) = l41w1a a57 a75 a76 N r4 m t36_a o2100_a o2101_a
        | 0, _, _, _ => rfl
        | m + 1, t36_a, o2100_a, o2101_a => by rw [wl41w1a]; simp only [l41w1a, ql41w1b, ql41w1a a57 a75 a76 N r4 m]
def m41w1 (a57 : Int → Int → Int → Option (Bool)) (a75 : (List (List Int)) → Int → (List Int) → (List Int) → Int → Option (List (List Int) × Bool)) (a76 : Int → Option (List (List Int))) (N : Nat) (stones0 : Int) : Option (List (List Int × List Int × Unit) × Int) :=
      (a57 (1 : Int) stones0 (13 : Int)).bind fun r1 =>
      cond (!r1) (some (([] : List (List Int × List Int × Unit)), (3 : Int)))
      ((a57 (0 : Int) (1 : Int) (3 : Int)).bind fun r2 =>
      cond (!r2) (some (([] : List (List Int × List Int × Unit)), (3 : Int)))
      ((a76 (1 : Int)).bind fun r3 =>
      (a75 r3 stones0 ([(0 : Int), (0 : Int), (0 : Int)] : List Int) ([(0 : Int), (0 : Int), (0 : Int)] : List Int) (1 : Int)).bind fun r4 =>
      cond (!r4.2) (some (([] : List (List Int × List Int × Unit)), (14 : Int)))
      ((l41w1a a57 a75 a76 N r4 N (0 : Int) ([] : List Int) ([] : List Int)))))
theorem wm41w1 (a57 : Int → Int → Int → Option (Bool)) (a75 : (List (List Int)) → Int → (List Int) → (List Int) → Int → Option (List (List Int) × Bool)) (a76 : Int → Option (List (List Int))) (N : Nat) (stones0 : Int) : callF (E41w1 a57 a75 a76) lv41w1 N en41w1 c41w1 (resOf Try.f41) 77 [.dv (.int .i64) stones0, .dv (.int .i64) (1 : Int)] [] dec41w1 = (a57 (1 : Int) stones0 (13 : Int)).bind fun r1 =>
      cond (!r1) (some (([] : List (List Int × List Int × Unit)), (3 : Int)))
      ((a57 (0 : Int) (1 : Int) (3 : Int)).bind fun r2 =>
      cond (!r2) (some (([] : List (List Int × List Int × Unit)), (3 : Int)))
      ((a76 (1 : Int)).bind fun r3 =>
      (a75 r3 stones0 ([(0 : Int), (0 : Int), (0 : Int)] : List Int) ([(0 : Int), (0 : Int), (0 : Int)] : List Int) (1 : Int)).bind fun r4 =>
      cond (!r4.2) (some (([] : List (List Int × List Int × Unit)), (14 : Int)))
      ((R41w1_0 a57 a75 a76 N N (Sl41w1a r4 (0 : Int) ([] : List Int) ([] : List Int)))))) := by kernel_rfl
theorem k41w1 (a57 : Int → Int → Int → Option (Bool)) (a75 : (List (List Int)) → Int → (List Int) → (List Int) → Int → Option (List (List Int) × Bool)) (a76 : Int → Option (List (List Int))) (N : Nat) (stones0 : Int) : callF (E41w1 a57 a75 a76) lv41w1 N en41w1 c41w1 (resOf Try.f41) 77 [.dv (.int .i64) stones0, .dv (.int .i64) (1 : Int)] [] dec41w1 = m41w1 a57 a75 a76 N stones0 := by rw [wm41w1]; simp only [m41w1, ql41w1a]
theorem hs41w1 (a57 : Int → Int → Int → Option (Bool)) (a75 : (List (List Int)) → Int → (List Int) → (List Int) → Int → Option (List (List Int) × Bool)) (a76 : Int → Option (List (List Int))) (h57 : FnOk Try.prog 57 (F57 a57)) (h75 : FnOk Try.prog 75 (F75 a75)) (h76 : FnOk Try.prog 76 (F76 a76)) (N : Nat) (stones0 : Int) (r : List (List Int × List Int × Unit) × Int) (hN : m41w1 a57 a75 a76 N stones0 = some r) : HSpec Try.prog 41 [.dv (.int .i64) stones0, .dv (.int .i64) (1 : Int)] [] fun x o => x = (.tup 2 fun i => ([.dv (.sl (.pair (.sl (.int .i64)) (.pair (.sl (.int .i64)) (.unit)))) r.1, .dv (.int .i64) r.2] : List TV).getD i .any : TV) ∧ o = [] := by
  refine lifted (L := [(57, F57 a57), (75, F75 a75), (76, F76 a76)]) (rc := (fun i => ([(33, [])] : List (Nat × List (Option DT))).lookup i)) (fz := nfz) (fn := Try.f41) (by kernel_rfl) (by kernel_rfl) (by kernel_rfl) (by kernel_rfl) rfl ?_ ((k41w1 a57 a75 a76 N _).trans hN) ?_
  · intro p hp; simp only [List.mem_cons, List.not_mem_nil, or_false] at hp; rcases hp with rfl | rfl | rfl
    · exact h57
    · exact h75
    · exact h76
  · intro l o hd
    simp only [dec41w1] at hd
    split at hd
    · obtain rfl := Option.some.inj hd; exact ⟨rfl, rfl⟩
    · cases hd
def E41w2 (a57 : Int → Int → Int → Option (Bool)) (a75 : (List (List Int)) → Int → (List Int) → (List Int) → Int → Option (List (List Int) × Bool)) (a76 : Int → Option (List (List Int))) : Env := mkE TI TY [(57, F57 a57), (75, F75 a75), (76, F76 a76)] (fun i => ([(33, [])] : List (Nat × List (Option DT))).lookup i) nfz
noncomputable def c41w2 : Code := bodyOf Try.f41
def nm41w2_0 : Norm := ⟨[1, 8, 34, 35, 36], [33, 1271500], [(.fld 33 0, 2100, .int .i64), (.fld 33 1, 2101, .int .i64), (.fld 33 2, 2102, .int .i64), (.fld 33 3, 2103, .int .i64)], []⟩
def nm41w2_1 : Norm := ⟨[1, 8, 9, 10, 34, 35, 36, 41, 42], [33, 10, 1271500], [(.fld 33 0, 2100, .int .i64), (.fld 33 1, 2101, .int .i64), (.fld 33 2, 2102, .int .i64), (.fld 33 3, 2103, .int .i64)], []⟩
def lv41w2 : Nat → Option Norm := norms [(8, nm41w2_0), (11, nm41w2_1)]
def en41w2 : End := ⟨[(79, .sl (.pair (.sl (.int .i64)) (.pair (.sl (.int .i64)) (.unit))))], ⟨[79, 80], [], [], []⟩⟩
def dec41w2 (l : List TV) (o : List (Nat × TO)) : Option (List (List Int × List Int × Unit) × Int) := match l, o with | [.dv (.sl (.pair (.sl (.int .i64)) (.pair (.sl (.int .i64)) (.unit)))) x0, .dv (.int .i64) x1], [] => some (x0, x1) | _, _ => none
noncomputable def K41w2_0 (a57 : Int → Int → Int → Option (Bool)) (a75 : (List (List Int)) → Int → (List Int) → (List Int) → Int → Option (List (List Int) × Bool)) (a76 : Int → Option (List (List Int))) (N : Nat) : Kont (List (List Int × List Int × Unit) × Int) := kont (E41w2 a57 a75 a76) lv41w2 N c41w2 [1, 1, 1, 1, 1, 0, 1, 0] (fin TI en41w2 (resOf Try.f41) dec41w2)
noncomputable def R41w2_0 (a57 : Int → Int → Int → Option (Bool)) (a75 : (List (List Int)) → Int → (List Int) → (List Int) → Int → Option (List (List Int) × Bool)) (a76 : Int → Option (List (List Int))) (N : Nat) (m : Nat) : TS → Option (List (List Int × List Int × Unit) × Int) := loopK (den (E41w2 a57 a75 a76) lv41w2 N (sub c41w2 [1, 1, 1, 1, 1, 0, 1, 0, 0])) (TS.norm nm41w2_0) (K41w2_0 a57 a75 a76 N) m
noncomputable def K41w2_1 (a57 : Int → Int → Int → Option (Bool)) (a75 : (List (List Int)) → Int → (List Int) → (List Int) → Int → Option (List (List Int) × Bool)) (a76 : Int → Option (List (List Int))) (N : Nat) (T41w2_0 : TS → Option (List (List Int × List Int × Unit) × Int)) : Kont (List (List Int × List Int × Unit) × Int) := kont (E41w2 a57 a75 a76) lv41w2 N (sub c41w2 [1, 1, 1, 1, 1, 0, 1, 0, 0]) [1, 1, 0, 0, 1, 1, 0] (kloop (TS.norm nm41w2_0) (K41w2_0 a57 a75 a76 N) T41w2_0)
noncomputable def R41w2_1 (a57 : Int → Int → Int → Option (Bool)) (a75 : (List (List Int)) → Int → (List Int) → (List Int) → Int → Option (List (List Int) × Bool)) (a76 : Int → Option (List (List Int))) (N : Nat) (T41w2_0 : TS → Option (List (List Int × List Int × Unit) × Int)) (m : Nat) : TS → Option (List (List Int × List Int × Unit) × Int) := loopK (den (E41w2 a57 a75 a76) lv41w2 N (sub c41w2 [1, 1, 1, 1, 1, 0, 1, 0, 0, 1, 1, 0, 0, 1, 1, 0, 0])) (TS.norm nm41w2_1) (K41w2_1 a57 a75 a76 N T41w2_0) m
def Sl41w2d (r4 : List (List Int) × Bool) (t36_a : Int) (o2100_d : List Int) (o2101_d : List Int) (o2102_d : List Int) (o2103_d : List Int) : TS := ⟨slots 79 [(1, .dv (.int .i64) (2 : Int)), (8, .view 33 0 [] 2 2 0 2), (9, .dv (.int .i64) t36_a), (10, .ptr 10 0 []), (34, .row 1271500), (35, .dv (.int .i64) (r4.1.length : Int)), (36, .dv (.int .i64) t36_a), (41, .dv (.int .i64) (2 : Int)), (42, .dv (.int .i64) (2 : Int))], [(2100, .row (.int .i64) o2100_d), (2101, .row (.int .i64) o2101_d), (2102, .row (.int .i64) o2102_d), (2103, .row (.int .i64) o2103_d), (33, .rcd [.row 2100, .row 2101, .row 2102, .row 2103]), (10, .row (.arr 3 (.int .i64)) ([r4.1.getD t36_a.toNat ([(0 : Int), (0 : Int), (0 : Int)] : List Int)] : List (List Int))), (1271500, .row (.arr 3 (.int .i64)) r4.1)]⟩
def Sl41w2c (r4 : List (List Int) × Bool) (t36_a : Int) (o2100_c : List Int) (o2101_c : List Int) (o2102_c : List Int) (o2103_c : List Int) : TS := ⟨slots 79 [(1, .dv (.int .i64) (2 : Int)), (8, .view 33 0 [] 2 2 0 2), (9, .dv (.int .i64) t36_a), (10, .ptr 10 0 []), (34, .row 1271500), (35, .dv (.int .i64) (r4.1.length : Int)), (36, .dv (.int .i64) t36_a), (41, .dv (.int .i64) (2 : Int)), (42, .dv (.int .i64) (1 : Int))], [(2100, .row (.int .i64) o2100_c), (2101, .row (.int .i64) o2101_c), (2102, .row (.int .i64) o2102_c), (2103, .row (.int .i64) o2103_c), (33, .rcd [.row 2100, .row 2101, .row 2102, .row 2103]), (10, .row (.arr 3 (.int .i64)) ([r4.1.getD t36_a.toNat ([(0 : Int), (0 : Int), (0 : Int)] : List Int)] : List (List Int))), (1271500, .row (.arr 3 (.int .i64)) r4.1)]⟩
def Sl41w2b (r4 : List (List Int) × Bool) (t36_a : Int) (o2100_b : List Int) (o2101_b : List Int) (o2102_b : List Int) (o2103_b : List Int) : TS := ⟨slots 79 [(1, .dv (.int .i64) (2 : Int)), (8, .view 33 0 [] 2 2 0 2), (9, .dv (.int .i64) t36_a), (10, .ptr 10 0 []), (34, .row 1271500), (35, .dv (.int .i64) (r4.1.length : Int)), (36, .dv (.int .i64) t36_a), (41, .dv (.int .i64) (2 : Int)), (42, .dv (.int .i64) (0 : Int))], [(2100, .row (.int .i64) o2100_b), (2101, .row (.int .i64) o2101_b), (2102, .row (.int .i64) o2102_b), (2103, .row (.int .i64) o2103_b), (33, .rcd [.row 2100, .row 2101, .row 2102, .row 2103]), (10, .row (.arr 3 (.int .i64)) ([r4.1.getD t36_a.toNat ([(0 : Int), (0 : Int), (0 : Int)] : List Int)] : List (List Int))), (1271500, .row (.arr 3 (.int .i64)) r4.1)]⟩
def Sl41w2a (r4 : List (List Int) × Bool) (t36_a : Int) (o2100_a : List Int) (o2101_a : List Int) (o2102_a : List Int) (o2103_a : List Int) : TS := ⟨slots 79 [(1, .dv (.int .i64) (2 : Int)), (8, .view 33 0 [] 2 2 0 2), (34, .row 1271500), (35, .dv (.int .i64) (r4.1.length : Int)), (36, .dv (.int .i64) t36_a)], [(2100, .row (.int .i64) o2100_a), (2101, .row (.int .i64) o2101_a), (2102, .row (.int .i64) o2102_a), (2103, .row (.int .i64) o2103_a), (33, .rcd [.row 2100, .row 2101, .row 2102, .row 2103]), (1271500, .row (.arr 3 (.int .i64)) r4.1)]⟩
def l41w2d (a57 : Int → Int → Int → Option (Bool)) (a75 : (List (List Int)) → Int → (List Int) → (List Int) → Int → Option (List (List Int) × Bool)) (a76 : Int → Option (List (List Int))) (N : Nat) (r4 : List (List Int) × Bool) (t36_a : Int) (rec_l41w2a : Int → (List Int) → (List Int) → (List Int) → (List Int) → Option (List (List Int × List Int × Unit) × Int)) : Nat → (List Int) → (List Int) → (List Int) → (List Int) → Option (List (List Int × List Int × Unit) × Int)
  | 0, _, _, _, _ => none
  | n + 1, o2100_d, o2101_d, o2102_d, o2103_d => (rec_l41w2a (w64 (t36_a + (1 : Int))) o2100_d o2101_d o2102_d o2103_d)
theorem wl41w2d (a57 : Int → Int → Int → Option (Bool)) (a75 : (List (List Int)) → Int → (List Int) → (List Int) → Int → Option (List (List Int) × Bool)) (a76 : Int → Option (List (List Int))) (N : Nat) (r4 : List (List Int) × Bool) (t36_a : Int) (T41w2_0 : TS → Option (List (List Int × List Int × Unit) × Int)) (m : Nat) (o2100_d : List Int) (o2101_d : List Int) (o2102_d : List Int) (o2103_d : List Int) : R41w2_1 a57 a75 a76 N T41w2_0 (m + 1) (Sl41w2d r4 t36_a o2100_d o2101_d o2102_d o2103_d) = (T41w2_0 (Sl41w2a r4 (w64 (t36_a + (1 : Int))) o2100_d o2101_d o2102_d o2103_d)) := by kernel_rfl
theorem ql41w2d (a57 : Int → Int → Int → Option (Bool)) (a75 : (List (List Int)) → Int → (List Int) → (List Int) → Int → Option (List (List Int) × Bool)) (a76 : Int → Option (List (List Int))) (N : Nat) (r4 : List (List Int) × Bool) (t36_a : Int) (T41w2_0 : TS → Option (List (List Int × List Int × Unit) × Int)) : ∀ (m : Nat) (o2100_d : List Int) (o2101_d : List Int) (o2102_d : List Int) (o2103_d : List Int), R41w2_1 a57 a75 a76 N T41w2_0 m (Sl41w2d r4 t36_a o2100_d o2101_d o2102_d o2103_d) = l41w2d a57 a75 a76 N r4 t36_a (fun y0 y1 y2 y3 y4 => T41w2_0 (Sl41w2a r4 y0 y1 y2 y3 y4)) m o2100_d o2101_d o2102_d o2103_d
        | 0, _, _, _, _ => rfl
        | m + 1, o2100_d, o2101_d, o2102_d, o2103_d => by rw [wl41w2d]; simp only [l41w2d, ql41w2d a57 a75 a76 N r4 t36_a T41w2_0 m]
def l41w2c (a57 : Int → Int → Int → Option (Bool)) (a75 : (List (List Int)) → Int → (List Int) → (List Int) → Int → Option (List (List Int) × Bool)) (a76 : Int → Option (List (List Int))) (N : Nat) (r4 : List (List Int) × Bool) (t36_a : Int) (rec_l41w2a : Int → (List Int) → (List Int) → (List Int) → (List Int) → Option (List (List Int × List Int × Unit) × Int)) : Nat → (List Int) → (List Int) → (List Int) → (List Int) → Option (List (List Int × List Int × Unit) × Int)
  | 0, _, _, _, _ => none
  | n + 1, o2100_c, o2101_c, o2102_c, o2103_c => cond (((r4.1.getD t36_a.toNat ([(0 : Int), (0 : Int), (0 : Int)] : List Int)).getD 1 (0 : Int)) == (-1 : Int)) (chk (small (o2102_c.length + 1) 8) ((l41w2d a57 a75 a76 N r4 t36_a rec_l41w2a n o2100_c o2101_c (o2102_c ++ ([t36_a] : List Int)) o2103_c)))
      (cond (((r4.1.getD t36_a.toNat ([(0 : Int), (0 : Int), (0 : Int)] : List Int)).getD 1 (0 : Int)) == (1 : Int)) (chk (small (o2103_c.length + 1) 8) ((l41w2d a57 a75 a76 N r4 t36_a rec_l41w2a n o2100_c o2101_c o2102_c (o2103_c ++ ([t36_a] : List Int)))))
      ((l41w2d a57 a75 a76 N r4 t36_a rec_l41w2a n o2100_c o2101_c o2102_c o2103_c)))
theorem wl41w2c (a57 : Int → Int → Int → Option (Bool)) (a75 : (List (List Int)) → Int → (List Int) → (List Int) → Int → Option (List (List Int) × Bool)) (a76 : Int → Option (List (List Int))) (N : Nat) (r4 : List (List Int) × Bool) (t36_a : Int) (T41w2_0 : TS → Option (List (List Int × List Int × Unit) × Int)) (m : Nat) (o2100_c : List Int) (o2101_c : List Int) (o2102_c : List Int) (o2103_c : List Int) : R41w2_1 a57 a75 a76 N T41w2_0 (m + 1) (Sl41w2c r4 t36_a o2100_c o2101_c o2102_c o2103_c) = cond (((r4.1.getD t36_a.toNat ([(0 : Int), (0 : Int), (0 : Int)] : List Int)).getD 1 (0 : Int)) == (-1 : Int)) (chk (small (o2102_c.length + 1) 8) ((R41w2_1 a57 a75 a76 N T41w2_0 m (Sl41w2d r4 t36_a o2100_c o2101_c (o2102_c ++ ([t36_a] : List Int)) o2103_c))))
      (cond (((r4.1.getD t36_a.toNat ([(0 : Int), (0 : Int), (0 : Int)] : List Int)).getD 1 (0 : Int)) == (1 : Int)) (chk (small (o2103_c.length + 1) 8) ((R41w2_1 a57 a75 a76 N T41w2_0 m (Sl41w2d r4 t36_a o2100_c o2101_c o2102_c (o2103_c ++ ([t36_a] : List Int))))))
      ((R41w2_1 a57 a75 a76 N T41w2_0 m (Sl41w2d r4 t36_a o2100_c o2101_c o2102_c o2103_c)))) := by kernel_rfl
theorem ql41w2c (a57 : Int → Int → Int → Option (Bool)) (a75 : (List (List Int)) → Int → (List Int) → (List Int) → Int → Option (List (List Int) × Bool)) (a76 : Int → Option (List (List Int))) (N : Nat) (r4 : List (List Int) × Bool) (t36_a : Int) (T41w2_0 : TS → Option (List (List Int × List Int × Unit) × Int)) : ∀ (m : Nat) (o2100_c : List Int) (o2101_c : List Int) (o2102_c : List Int) (o2103_c : List Int), R41w2_1 a57 a75 a76 N T41w2_0 m (Sl41w2c r4 t36_a o2100_c o2101_c o2102_c o2103_c) = l41w2c a57 a75 a76 N r4 t36_a (fun y0 y1 y2 y3 y4 => T41w2_0 (Sl41w2a r4 y0 y1 y2 y3 y4)) m o2100_c o2101_c o2102_c o2103_c
        | 0, _, _, _, _ => rfl
        | m + 1, o2100_c, o2101_c, o2102_c, o2103_c => by rw [wl41w2c]; simp only [l41w2c, ql41w2d, ql41w2c a57 a75 a76 N r4 t36_a T41w2_0 m]
def l41w2b (a57 : Int → Int → Int → Option (Bool)) (a75 : (List (List Int)) → Int → (List Int) → (List Int) → Int → Option (List (List Int) × Bool)) (a76 : Int → Option (List (List Int))) (N : Nat) (r4 : List (List Int) × Bool) (t36_a : Int) (rec_l41w2a : Int → (List Int) → (List Int) → (List Int) → (List Int) → Option (List (List Int × List Int × Unit) × Int)) : Nat → (List Int) → (List Int) → (List Int) → (List Int) → Option (List (List Int × List Int × Unit) × Int)
  | 0, _, _, _, _ => none
  | n + 1, o2100_b, o2101_b, o2102_b, o2103_b => cond (((r4.1.getD t36_a.toNat ([(0 : Int), (0 : Int), (0 : Int)] : List Int)).getD 0 (0 : Int)) == (-1 : Int)) (chk (small (o2100_b.length + 1) 8) ((l41w2c a57 a75 a76 N r4 t36_a rec_l41w2a n (o2100_b ++ ([t36_a] : List Int)) o2101_b o2102_b o2103_b)))
      (cond (((r4.1.getD t36_a.toNat ([(0 : Int), (0 : Int), (0 : Int)] : List Int)).getD 0 (0 : Int)) == (1 : Int)) (chk (small (o2101_b.length + 1) 8) ((l41w2c a57 a75 a76 N r4 t36_a rec_l41w2a n o2100_b (o2101_b ++ ([t36_a] : List Int)) o2102_b o2103_b)))
      ((l41w2c a57 a75 a76 N r4 t36_a rec_l41w2a n o2100_b o2101_b o2102_b o2103_b)))
theorem wl41w2b (a57 : Int → Int → Int → Option (Bool)) (a75 : (List (List Int)) → Int → (List Int) → (List Int) → Int → Option (List (List Int) × Bool)) (a76 : Int → Option (List (List Int))) (N : Nat) (r4 : List (List Int) × Bool) (t36_a : Int) (T41w2_0 : TS → Option (List (List Int × List Int × Unit) × Int)) (m : Nat) (o2100_b : List Int) (o2101_b : List Int) (o2102_b : List Int) (o2103_b : List Int) : R41w2_1 a57 a75 a76 N T41w2_0 (m + 1) (Sl41w2b r4 t36_a o2100_b o2101_b o2102_b o2103_b) = cond (((r4.1.getD t36_a.toNat ([(0 : Int), (0 : Int), (0 : Int)] : List Int)).getD 0 (0 : Int)) == (-1 : Int)) (chk (small (o2100_b.length + 1) 8) ((R41w2_1 a57 a75 a76 N T41w2_0 m (Sl41w2c r4 t36_a (o2100_b ++ ([t36_a] : List Int)) o2101_b o2102_b o2103_b))))
      (cond (((r4.1.getD t36_a.toNat ([(0 : Int), (0 : Int), (0 : Int)] : List Int)).getD 0 (0 : Int)) == (1 : Int)) (chk (small (o2101_b.length + 1) 8) ((R41w2_1 a57 a75 a76 N T41w2_0 m (Sl41w2c r4 t36_a o2100_b (o2101_b ++ ([t36_a] : List Int)) o2102_b o2103_b))))
      ((R41w2_1 a57 a75 a76 N T41w2_0 m (Sl41w2c r4 t36_a o2100_b o2101_b o2102_b o2103_b)))) := by kernel_rfl
theorem ql41w2b (a57 : Int → Int → Int → Option (Bool)) (a75 : (List (List Int)) → Int → (List Int) → (List Int) → Int → Option (List (List Int) × Bool)) (a76 : Int → Option (List (List Int))) (N : Nat) (r4 : List (List Int) × Bool) (t36_a : Int) (T41w2_0 : TS → Option (List (List Int × List Int × Unit) × Int)) : ∀ (m : Nat) (o2100_b : List Int) (o2101_b : List Int) (o2102_b : List Int) (o2103_b : List Int), R41w2_1 a57 a75 a76 N T41w2_0 m (Sl41w2b r4 t36_a o2100_b o2101_b o2102_b o2103_b) = l41w2b a57 a75 a76 N r4 t36_a (fun y0 y1 y2 y3 y4 => T41w2_0 (Sl41w2a r4 y0 y1 y2 y3 y4)) m o2100_b o2101_b o2102_b o2103_b
        | 0, _, _, _, _ => rfl
        | m + 1, o2100_b, o2101_b, o2102_b, o2103_b => by rw [wl41w2b]; simp only [l41w2b, ql41w2c, ql41w2b a57 a75 a76 N r4 t36_a T41w2_0 m]
def l41w2a (a57 : Int → Int → Int → Option (Bool)) (a75 : (List (List Int)) → Int → (List Int) → (List Int) → Int → Option (List (List Int) × Bool)) (a76 : Int → Option (List (List Int))) (N : Nat) (r4 : List (List Int) × Bool) : Nat → Int → (List Int) → (List Int) → (List Int) → (List Int) → Option (List (List Int × List Int × Unit) × Int)
  | 0, _, _, _, _, _ => none
  | n + 1, t36_a, o2100_a, o2101_a, o2102_a, o2103_a => cond (decide (t36_a < (r4.1.length : Int))) (chk (decide (0 ≤ t36_a ∧ t36_a < (r4.1.length : Int))) ((l41w2b a57 a75 a76 N r4 t36_a (fun y0 y1 y2 y3 y4 => (l41w2a a57 a75 a76 N r4 n y0 y1 y2 y3 y4)) N o2100_a o2101_a o2102_a o2103_a)))
      (some (([(o2100_a, (o2101_a, ())), (o2102_a, (o2103_a, ()))] : List (List Int × List Int × Unit)), (0 : Int)))
theorem wl41w2a (a57 : Int → Int → Int → Option (Bool)) (a75 : (List (List Int)) → Int → (List Int) → (List Int) → Int → Option (List (List Int) × Bool)) (a76 : Int → Option (List (List Int))) (N : Nat) (r4 : List (List Int) × Bool) (m : Nat) (t36_a : Int) (o2100_a : List Int) (o2101_a : List Int) (o2102_a : List Int) (o2103_a : List Int) : R41w2_0 a57 a75 a76 N (m + 1) (Sl41w2a r4 t36_a o2100_a o2101_a o2102_a o2103_a) = cond (decide (t36_a < (r4.1.length : Int))) (chk (decide (0 ≤ t36_a ∧ t36_a < (r4.1.length : Int))) ((R41w2_1 a57 a75 a76 N (R41w2_0 a57 a75 a76 N m) N (Sl41w2b r4 t36_a o2100_a o2101_a o2102_a o2103_a))))
      (some (([(o2100_a, (o2101_a, ())), (o2102_a, (o2103_a, ()))] : List (List Int × List Int × Unit)), (0 : Int))) := by kernel_rfl
theorem ql41w2a (a57 : Int → Int → Int → Option (Bool)) (a75 : (List (List Int)) → Int → (List Int) → (List Int) → Int → Option (List (List Int) × Bool)) (a76 : Int → Option (List (List Int))) (N : Nat) (r4 : List (List Int) × Bool) : ∀ (m : Nat) (t36_a : Int) (o2100_a : List Int) (o2101_a : List Int) (o2102_a : List Int) (o2103_a : List Int), R41w2_0 a57 a75 a76 N m (Sl41w2a r4 t36_a o2100_a o2101_a o2102_a o2103_a) = l41w2a a57 a75 a76 N r4 m t36_a o2100_a o2101_a o2102_a o2103_a
        | 0, _, _, _, _, _ => rfl
        | m + 1, t36_a, o2100_a, o2101_a, o2102_a, o2103_a => by rw [wl41w2a]; simp only [l41w2a, ql41w2b, ql41w2a a57 a75 a76 N r4 m]
def m41w2 (a57 : Int → Int → Int → Option (Bool)) (a75 : (List (List Int)) → Int → (List Int) → (List Int) → Int → Option (List (List Int) × Bool)) (a76 : Int → Option (List (List Int))) (N : Nat) (stones0 : Int) : Option (List (List Int × List Int × Unit) × Int) :=
      (a57 (1 : Int) stones0 (13 : Int)).bind fun r1 =>
      cond (!r1) (some (([] : List (List Int × List Int × Unit)), (3 : Int)))
      ((a57 (0 : Int) (2 : Int) (3 : Int)).bind fun r2 =>
      cond (!r2) (some (([] : List (List Int × List Int × Unit)), (3 : Int)))
      ((a76 (2 : Int)).bind fun r3 =>
      (a75 r3 stones0 ([(0 : Int), (0 : Int), (0 : Int)] : List Int) ([(0 : Int), (0 : Int), (0 : Int)] : List Int) (2 : Int)).bind fun r4 =>
      cond (!r4.2) (some (([] : List (List Int × List Int × Unit)), (14 : Int)))
      ((l41w2a a57 a75 a76 N r4 N (0 : Int) ([] : List Int) ([] : List Int) ([] : List Int) ([] : List Int)))))
theorem wm41w2 (a57 : Int → Int → Int → Option (Bool)) (a75 : (List (List Int)) → Int → (List Int) → (List Int) → Int → Option (List (List Int) × Bool)) (a76 : Int → Option (List (List Int))) (N : Nat) (stones0 : Int) : callF (E41w2 a57 a75 a76) lv41w2 N en41w2 c41w2 (resOf Try.f41) 77 [.dv (.int .i64) stones0, .dv (.int .i64) (2 : Int)] [] dec41w2 = (a57 (1 : Int) stones0 (13 : Int)).bind fun r1 =>
      cond (!r1) (some (([] : List (List Int × List Int × Unit)), (3 : Int)))
      ((a57 (0 : Int) (2 : Int) (3 : Int)).bind fun r2 =>
      cond (!r2) (some (([] : List (List Int × List Int × Unit)), (3 : Int)))
      ((a76 (2 : Int)).bind fun r3 =>
      (a75 r3 stones0 ([(0 : Int), (0 : Int), (0 : Int)] : List Int) ([(0 : Int), (0 : Int), (0 : Int)] : List Int) (2 : Int)).bind fun r4 =>
      cond (!r4.2) (some (([] : List (List Int × List Int × Unit)), (14 : Int)))
      ((R41w2_0 a57 a75 a76 N N (Sl41w2a r4 (0 : Int) ([] : List Int) ([] : List Int) ([] : List Int) ([] : List Int)))))) := by kernel_rfl
theorem k41w2 (a57 : Int → Int → Int → Option (Bool)) (a75 : (List (List Int)) → Int → (List Int) → (List Int) → Int → Option (List (List Int) × Bool)) (a76 : Int → Option (List (List Int))) (N : Nat) (stones0 : Int) : callF (E41w2 a57 a75 a76) lv41w2 N en41w2 c41w2 (resOf Try.f41) 77 [.dv (.int .i64) stones0, .dv (.int .i64) (2 : Int)] [] dec41w2 = m41w2 a57 a75 a76 N stones0 := by rw [wm41w2]; simp only [m41w2, ql41w2a]
theorem hs41w2 (a57 : Int → Int → Int → Option (Bool)) (a75 : (List (List Int)) → Int → (List Int) → (List Int) → Int → Option (List (List Int) × Bool)) (a76 : Int → Option (List (List Int))) (h57 : FnOk Try.prog 57 (F57 a57)) (h75 : FnOk Try.prog 75 (F75 a75)) (h76 : FnOk Try.prog 76 (F76 a76)) (N : Nat) (stones0 : Int) (r : List (List Int × List Int × Unit) × Int) (hN : m41w2 a57 a75 a76 N stones0 = some r) : HSpec Try.prog 41 [.dv (.int .i64) stones0, .dv (.int .i64) (2 : Int)] [] fun x o => x = (.tup 2 fun i => ([.dv (.sl (.pair (.sl (.int .i64)) (.pair (.sl (.int .i64)) (.unit)))) r.1, .dv (.int .i64) r.2] : List TV).getD i .any : TV) ∧ o = [] := by
  refine lifted (L := [(57, F57 a57), (75, F75 a75), (76, F76 a76)]) (rc := (fun i => ([(33, [])] : List (Nat × List (Option DT))).lookup i)) (fz := nfz) (fn := Try.f41) (by kernel_rfl) (by kernel_rfl) (by kernel_rfl) (by kernel_rfl) rfl ?_ ((k41w2 a57 a75 a76 N _).trans hN) ?_
  · intro p hp; simp only [List.mem_cons, List.not_mem_nil, or_false] at hp; rcases hp with rfl | rfl | rfl
    · exact h57
    · exact h75
    · exact h76
  · intro l o hd
    simp only [dec41w2] at hd
    split at hd
    · obtain rfl := Option.some.inj hd; exact ⟨rfl, rfl⟩
    · cases hd
def E41w3 (a57 : Int → Int → Int → Option (Bool)) (a75 : (List (List Int)) → Int → (List Int) → (List Int) → Int → Option (List (List Int) × Bool)) (a76 : Int → Option (List (List Int))) : Env := mkE TI TY [(57, F57 a57), (75, F75 a75), (76, F76 a76)] (fun i => ([(33, [])] : List (Nat × List (Option DT))).lookup i) nfz
noncomputable def c41w3 : Code := bodyOf Try.f41
def nm41w3_0 : Norm := ⟨[1, 8, 34, 35, 36], [33, 1271500], [(.fld 33 0, 2100, .int .i64), (.fld 33 1, 2101, .int .i64), (.fld 33 2, 2102, .int .i64), (.fld 33 3, 2103, .int .i64), (.fld 33 4, 2104, .int .i64), (.fld 33 5, 2105, .int .i64)], []⟩
def nm41w3_1 : Norm := ⟨[1, 8, 9, 10, 34, 35, 36, 41, 42], [33, 10, 1271500], [(.fld 33 0, 2100, .int .i64), (.fld 33 1, 2101, .int .i64), (.fld 33 2, 2102, .int .i64), (.fld 33 3, 2103, .int .i64), (.fld 33 4, 2104, .int .i64), (.fld 33 5, 2105, .int .i64)], []⟩
def lv41w3 : Nat → Option Norm := norms [(8, nm41w3_0), (11, nm41w3_1)]
def en41w3 : End := ⟨[(79, .sl (.pair (.sl (.int .i64)) (.pair (.sl (.int .i64)) (.unit))))], ⟨[79, 80], [], [], []⟩⟩
def dec41w3 (l : List TV) (o : List (Nat × TO)) : Option (List (List Int × List Int × Unit) × Int) := match l, o with | [.dv (.sl (.pair (.sl (.int .i64)) (.pair (.sl (.int .i64)) (.unit)))) x0, .dv (.int .i64) x1], [] => some (x0, x1) | _, _ => none
noncomputable def K41w3_0 (a57 : Int → Int → Int → Option (Bool)) (a75 : (List (List Int)) → Int → (List Int) → (List Int) → Int → Option (List (List Int) × Bool)) (a76 : Int → Option (List (List Int))) (N : Nat) : Kont (List (List Int × List Int × Unit) × Int) := kont (E41w3 a57 a75 a76) lv41w3 N c41w3 [1, 1, 1, 1, 1, 0, 1, 0] (fin TI en41w3 (resOf Try.f41) dec41w3)
noncomputable def R41w3_0 (a57 : Int → Int → Int → Option (Bool)) (a75 : (List (List Int)) → Int → (List Int) → (List Int) → Int → Option (List (List Int) × Bool)) (a76 : Int → Option (List (List Int))) (N : Nat) (m : Nat) : TS → Option (List (List Int × List Int × Unit) × Int) := loopK (den (E41w3 a57 a75 a76) lv41w3 N (sub c41w3 [1, 1, 1, 1, 1, 0, 1, 0, 0])) (TS.norm nm41w3_0) (K41w3_0 a57 a75 a76 N) m
noncomputable def K41w3_1 (a57 : Int → Int → Int → Option (Bool)) (a75 : (List (List Int)) → Int → (List Int) → (List Int) → Int → Option (List (List Int) × Bool)) (a76 : Int → Option (List (List Int))) (N : Nat) (T41w3_0 : TS → Option (List (List Int × List Int × Unit) × Int)) : Kont (List (List Int × List Int × Unit) × Int) := kont (E41w3 a57 a75 a76) lv41w3 N (sub c41w3 [1, 1, 1, 1, 1, 0, 1, 0, 0]) [1, 1, 0, 0, 1, 1, 0] (kloop (TS.norm nm41w3_0) (K41w3_0 a57 a75 a76 N) T41w3_0)
noncomputable def R41w3_1 (a57 : Int → Int → Int → Option (Bool)) (a75 : (List (List Int)) → Int → (List Int) → (List Int) → Int → Option (List (List Int) × Bool)) (a76 : Int → Option (List (List Int))) (N : Nat) (T41w3_0 : TS → Option (List (List Int × List Int × Unit) × Int)) (m : Nat) : TS → Option (List (List Int × List Int × Unit) × Int) := loopK (den (E41w3 a57 a75 a76) lv41w3 N (sub c41w3 [1, 1, 1, 1, 1, 0, 1, 0, 0, 1, 1, 0, 0, 1, 1, 0, 0])) (TS.norm nm41w3_1) (K41w3_1 a57 a75 a76 N T41w3_0) m
def Sl41w3e (r4 : List (List Int) × Bool) (t36_a : Int) (o2100_e : List Int) (o2101_e : List Int) (o2102_e : List Int) (o2103_e : List Int) (o2104_e : List Int) (o2105_e : List Int) : TS := ⟨slots 79 [(1, .dv (.int .i64) (3 : Int)), (8, .view 33 0 [] 2 3 0 3), (9, .dv (.int .i64) t36_a), (10, .ptr 10 0 []), (34, .row 1271500), (35, .dv (.int .i64) (r4.1.length : Int)), (36, .dv (.int .i64) t36_a), (41, .dv (.int .i64) (3 : Int)), (42, .dv (.int .i64) (3 : Int))], [(2100, .row (.int .i64) o2100_e), (2101, .row (.int .i64) o2101_e), (2102, .row (.int .i64) o2102_e), (2103, .row (.int .i64) o2103_e), (2104, .row (.int .i64) o2104_e), (2105, .row (.int .i64) o2105_e), (33, .rcd [.row 2100, .row 2101, .row 2102, .row 2103, .row 2104, .row 2105]), (10, .row (.arr 3 (.int .i64)) ([r4.1.getD t36_a.toNat ([(0 : Int), (0 : Int), (0 : Int)] : List Int)] : List (List Int))), (1271500, .row (.arr 3 (.int .i64)) r4.1)]⟩
def Sl41w3d (r4 : List (List Int) × Bool) (t36_a : Int) (o2100_d : List Int) (o2101_d : List Int) (o2102_d : List Int) (o2103_d : List Int) (o2104_d : List Int) (o2105_d : List Int) : TS := ⟨slots 79 [(1, .dv (.int .i64) (3 : Int)), (8, .view 33 0 [] 2 3 0 3), (9, .dv (.int .i64) t36_a), (10, .ptr 10 0 []), (34, .row 1271500), (35, .dv (.int .i64) (r4.1.length : Int)), (36, .dv (.int .i64) t36_a), (41, .dv (.int .i64) (3 : Int)), (42, .dv (.int .i64) (2 : Int))], [(2100, .row (.int .i64) o2100_d), (2101, .row (.int .i64) o2101_d), (2102, .row (.int .i64) o2102_d), (2103, .row (.int .i64) o2103_d), (2104, .row (.int .i64) o2104_d), (2105, .row (.int .i64) o2105_d), (33, .rcd [.row 2100, .row 2101, .row 2102, .row 2103, .row 2104, .row 2105]), (10, .row (.arr 3 (.int .i64)) ([r4.1.getD t36_a.toNat ([(0 : Int), (0 : Int), (0 : Int)] : List Int)] : List (List Int))), (1271500, .row (.arr 3 (.int .i64)) r4.1)]⟩
def Sl41w3c (r4 : List (List Int) × Bool) (t36_a : Int) (o2100_c : List Int) (o2101_c : List Int) (o2102_c : List Int) (o2103_c : List Int) (o2104_c : List Int) (o2105_c : List Int) : TS := ⟨slots 79 [(1, .dv (.int .i64) (3 : Int)), (8, .view 33 0 [] 2 3 0 3), (9, .dv (.int .i64) t36_a), (10, .ptr 10 0 []), (34, .row 1271500), (35, .dv (.int .i64) (r4.1.length : Int)), (36, .dv (.int .i64) t36_a), (41, .dv (.int .i64) (3 : Int)), (42, .dv (.int .i64) (1 : Int))], [(2100, .row (.int .i64) o2100_c), (2101, .row (.int .i64) o2101_c), (2102, .row (.int .i64) o2102_c), (2103, .row (.int .i64) o2103_c), (2104, .row (.int .i64) o2104_c), (2105, .row (.int .i64) o2105_c), (33, .rcd [.row 2100, .row 2101, .row 2102, .row 2103, .row 2104, .row 2105]), (10, .row (.arr 3 (.int .i64)) ([r4.1.getD t36_a.toNat ([(0 : Int), (0 : Int), (0 : Int)] : List Int)] : List (List Int))), (1271500, .row (.arr 3 (.int .i64)) r4.1)]⟩
def Sl41w3b (r4 : List (List Int) × Bool) (t36_a : Int) (o2100_b : List Int) (o2101_b : List Int) (o2102_b : List Int) (o2103_b : List Int) (o2104_b : List Int) (o2105_b : List Int) : TS := ⟨slots 79 [(1, .dv (.int .i64) (3 : Int)), (8, .view 33 0 [] 2 3 0 3), (9, .dv (.int .i64) t36_a), (10, .ptr 10 0 []), (34, .row 1271500), (35, .dv (.int .i64) (r4.1.length : Int)), (36, .dv (.int .i64) t36_a), (41, .dv (.int .i64) (3 : Int)), (42, .dv (.int .i64) (0 : Int))], [(2100, .row (.int .i64) o2100_b), (2101, .row (.int .i64) o2101_b), (2102, .row (.int .i64) o2102_b), (2103, .row (.int .i64) o2103_b), (2104, .row (.int .i64) o2104_b), (2105, .row (.int .i64) o2105_b), (33, .rcd [.row 2100, .row 2101, .row 2102, .row 2103, .row 2104, .row 2105]), (10, .row (.arr 3 (.int .i64)) ([r4.1.getD t36_a.toNat ([(0 : Int), (0 : Int), (0 : Int)] : List Int)] : List (List Int))), (1271500, .row (.arr 3 (.int .i64)) r4.1)]⟩
def Sl41w3a (r4 : List (List Int) × Bool) (t36_a : Int) (o2100_a : List Int) (o2101_a : List Int) (o2102_a : List Int) (o2103_a : List Int) (o2104_a : List Int) (o2105_a : List Int) : TS := ⟨slots 79 [(1, .dv (.int .i64) (3 : Int)), (8, .view 33 0 [] 2 3 0 3), (34, .row 1271500), (35, .dv (.int .i64) (r4.1.length : Int)), (36, .dv (.int .i64) t36_a)], [(2100, .row (.int .i64) o2100_a), (2101, .row (.int .i64) o2101_a), (2102, .row (.int .i64) o2102_a), (2103, .row (.int .i64) o2103_a), (2104, .row (.int .i64) o2104_a), (2105, .row (.int .i64) o2105_a), (33, .rcd [.row 2100, .row 2101, .row 2102, .row 2103, .row 2104, .row 2105]), (1271500, .row (.arr 3 (.int .i64)) r4.1)]⟩
def l41w3e (a57 : Int → Int → Int → Option (Bool)) (a75 : (List (List Int)) → Int → (List Int) → (List Int) → Int → Option (List (List Int) × Bool)) (a76 : Int → Option (List (List Int))) (N : Nat) (r4 : List (List Int) × Bool) (t36_a : Int) (rec_l41w3a : Int → (List Int) → (List Int) → (List Int) → (List Int) → (List Int) → (List Int) → Option (List (List Int × List Int × Unit) × Int)) : Nat → (List Int) → (List Int) → (List Int) → (List Int) → (List Int) → (List Int) → Option (List (List Int × List Int × Unit) × Int)
  | 0, _, _, _, _, _, _ => none
  | n + 1, o2100_e, o2101_e, o2102_e, o2103_e, o2104_e, o2105_e => (rec_l41w3a (w64 (t36_a + (1 : Int))) o2100_e o2101_e o2102_e o2103_e o2104_e o2105_e)
theorem wl41w3e (a57 : Int → Int → Int → Option (Bool)) (a75 : (List (List Int)) → Int → (List Int) → (List Int) → Int → Option (List (List Int) × Bool)) (a76 : Int → Option (List (List Int))) (N : Nat) (r4 : List (List Int) × Bool) (t36_a : Int) (T41w3_0 : TS → Option (List (List Int × List Int × Unit) × Int)) (m : Nat) (o2100_e : List Int) (o2101_e : List Int) (o2102_e : List Int) (o2103_e : List Int) (o2104_e : List Int) (o2105_e : List Int) : R41w3_1 a57 a75 a76 N T41w3_0 (m + 1) (Sl41w3e r4 t36_a o2100_e o2101_e o2102_e o2103_e o2104_e o2105_e) = (T41w3_0 (Sl41w3a r4 (w64 (t36_a + (1 : Int))) o2100_e o2101_e o2102_e o2103_e o2104_e o2105_e)) := by kernel_rfl
theorem ql41w3e (a57 : Int → Int → Int → Option (Bool)) (a75 : (List (List Int)) → Int → (List Int) → (List Int) → Int → Option (List (List Int) × Bool)) (a76 : Int → Option (List (List Int))) (N : Nat) (r4 : List (List Int) × Bool) (t36_a : Int) (T41w3_0 : TS → Option (List (List Int × List Int × Unit) × Int)) : ∀ (m : Nat) (o2100_e : List Int) (o2101_e : List Int) (o2102_e : List Int) (o2103_e : List Int) (o2104_e : List Int) (o2105_e : List Int), R41w3_1 a57 a75 a76 N T41w3_0 m (Sl41w3e r4 t36_a o2100_e o2101_e o2102_e o2103_e o2104_e o2105_e) = l41w3e a57 a75 a76 N r4 t36_a (fun y0 y1 y2 y3 y4 y5 y6 => T41w3_0 (Sl41w3a r4 y0 y1 y2 y3 y4 y5 y6)) m o2100_e o2101_e o2102_e o2103_e o2104_e o2105_e
        | 0, _, _, _, _, _, _ => rfl
        | m + 1, o2100_e, o2101_e, o2102_e, o2103_e, o2104_e, o2105_e => by rw [wl41w3e]; simp only [l41w3e, ql41w3e a57 a75 a76 N r4 t36_a T41w3_0 m]
def l41w3d (a57 : Int → Int → Int → Option (Bool)) (a75 : (List (List Int)) → Int → (List Int) → (List Int) → Int → Option (List (List Int) × Bool)) (a76 : Int → Option (List (List Int))) (N : Nat) (r4 : List (List Int) × Bool) (t36_a : Int) (rec_l41w3a : Int → (List Int) → (List Int) → (List Int) → (List Int) → (List Int) → (List Int) → Option (List (List Int × List Int × Unit) × Int)) : Nat → (List Int) → (List Int) → (List Int) → (List Int) → (List Int) → (List Int) → Option (List (List Int × List Int × Unit) × Int)
  | 0, _, _, _, _, _, _ => none
  | n + 1, o2100_d, o2101_d, o2102_d, o2103_d, o2104_d, o2105_d => cond (((r4.1.getD t36_a.toNat ([(0 : Int), (0 : Int), (0 : Int)] : List Int)).getD 2 (0 : Int)) == (-1 : Int)) (chk (small (o2104_d.length + 1) 8) ((l41w3e a57 a75 a76 N r4 t36_a rec_l41w3a n o2100_d o2101_d o2102_d o2103_d (o2104_d ++ ([t36_a] : List Int)) o2105_d)))
      (cond (((r4.1.getD t36_a.toNat ([(0 : Int), (0 : Int), (0 : Int)] : List Int)).getD 2 (0 : Int)) == (1 : Int)) (chk (small (o2105_d.length + 1) 8) ((l41w3e a57 a75 a76 N r4 t36_a rec_l41w3a n o2100_d o2101_d o2102_d o2103_d o2104_d (o2105_d ++ ([t36_a] : List Int)))))
      ((l41w3e a57 a75 a76 N r4 t36_a rec_l41w3a n o2100_d o2101_d o2102_d o2103_d o2104_d o2105_d)))
theorem wl41w3d (a57 : Int → Int → Int → Option (Bool)) (a75 : (List (List Int)) → Int → (List Int) → (List Int) → Int → Option (List (List Int) × Bool)) (a76 : Int → Option (List (List Int))) (N : Nat) (r4 : List (List Int) × Bool) (t36_a : Int) (T41w3_0 : TS → Option (List (List Int × List Int × Unit) × Int)) (m : Nat) (o2100_d : List Int) (o2101_d : List Int) (o2102_d : List Int) (o2103_d : List Int) (o2104_d : List Int) (o2105_d : List Int) : R41w3_1 a57 a75 a76 N T41w3_0 (m + 1) (Sl41w3d r4 t36_a o2100_d o2101_d o2102_d o2103_d o2104_d o2105_d) = cond (((r4.1.getD t36_a.toNat ([(0 : Int), (0 : Int), (0 : Int)] : List Int)).getD 2 (0 : Int)) == (-1 : Int)) (chk (small (o2104_d.length + 1) 8) ((R41w3_1 a57 a75 a76 N T41w3_0 m (Sl41w3e r4 t36_a o2100_d o2101_d o2102_d o2103_d (o2104_d ++ ([t36_a] : List Int)) o2105_d))))
      (cond (((r4.1.getD t36_a.toNat ([(0 : Int), (0 : Int), (0 : Int)] : List Int)).getD 2 (0 : Int)) == (1 : Int)) (chk (small (o2105_d.length + 1) 8) ((R41w3_1 a57 a75 a76 N T41w3_0 m (Sl41w3e r4 t36_a o2100_d o2101_d o2102_d o2103_d o2104_d (o2105_d ++ ([t36_a] : List Int))))))
      ((R41w3_1 a57 a75 a76 N T41w3_0 m (Sl41w3e r4 t36_a o2100_d o2101_d o2102_d o2103_d o2104_d o2105_d)))) := by kernel_rfl
theorem ql41w3d (a57 : Int → Int → Int → Option (Bool)) (a75 : (List (List Int)) → Int → (List Int) → (List Int) → Int → Option (List (List Int) × Bool)) (a76 : Int → Option (List (List Int))) (N : Nat) (r4 : List (List Int) × Bool) (t36_a : Int) (T41w3_0 : TS → Option (List (List Int × List Int × Unit) × Int)) : ∀ (m : Nat) (o2100_d : List Int) (o2101_d : List Int) (o2102_d : List Int) (o2103_d : List Int) (o2104_d : List Int) (o2105_d : List Int), R41w3_1 a57 a75 a76 N T41w3_0 m (Sl41w3d r4 t36_a o2100_d o2101_d o2102_d o2103_d o2104_d o2105_d) = l41w3d a57 a75 a76 N r4 t36_a (fun y0 y1 y2 y3 y4 y5 y6 => T41w3_0 (Sl41w3a r4 y0 y1 y2 y3 y4 y5 y6)) m o2100_d o2101_d o2102_d o2103_d o2104_d o2105_d
        | 0, _, _, _, _, _, _ => rfl
        | m + 1, o2100_d, o2101_d, o2102_d, o2103_d, o2104_d, o2105_d => by rw [wl41w3d]; simp only [l41w3d, ql41w3e, ql41w3d a57 a75 a76 N r4 t36_a T41w3_0 m]
def l41w3c (a57 : Int → Int → Int → Option (Bool)) (a75 : (List (List Int)) → Int → (List Int) → (List Int) → Int → Option (List (List Int) × Bool)) (a76 : Int → Option (List (List Int))) (N : Nat) (r4 : List (List Int) × Bool) (t36_a : Int) (rec_l41w3a : Int → (List Int) → (List Int) → (List Int) → (List Int) → (List Int) → (List Int) → Option (List (List Int × List Int × Unit) × Int)) : Nat → (List Int) → (List Int) → (List Int) → (List Int) → (List Int) → (List Int) → Option (List (List Int × List Int × Unit) × Int)
  | 0, _, _, _, _, _, _ => none
  | n + 1, o2100_c, o2101_c, o2102_c, o2103_c, o2104_c, o2105_c => cond (((r4.1.getD t36_a.toNat ([(0 : Int), (0 : Int), (0 : Int)] : List Int)).getD 1 (0 : Int)) == (-1 : Int)) (chk (small (o2102_c.length + 1) 8) ((l41w3d a57 a75 a76 N r4 t36_a rec_l41w3a n o2100_c o2101_c (o2102_c ++ ([t36_a] : List Int)) o2103_c o2104_c o2105_c)))
      (cond (((r4.1.getD t36_a.toNat ([(0 : Int), (0 : Int), (0 : Int)] : List Int)).getD 1 (0 : Int)) == (1 : Int)) (chk (small (o2103_c.length + 1) 8) ((l41w3d a57 a75 a76 N r4 t36_a rec_l41w3a n o2100_c o2101_c o2102_c (o2103_c ++ ([t36_a] : List Int)) o2104_c o2105_c)))
      ((l41w3d a57 a75 a76 N r4 t36_a rec_l41w3a n o2100_c o2101_c o2102_c o2103_c o2104_c o2105_c)))
theorem wl41w3c (a57 : Int → Int → Int → Option (Bool)) (a75 : (List (List Int)) → Int → (List Int) → (List Int) → Int → Option (List (List Int) × Bool)) (a76 : Int → Option (List (List Int))) (N : Nat) (r4 : List (List Int) × Bool) (t36_a : Int) (T41w3_0 : TS → Option (List (List Int × List Int × Unit) × Int)) (m : Nat) (o2100_c : List Int) (o2101_c : List Int) (o2102_c : List Int) (o2103_c : List Int) (o2104_c : List Int) (o2105_c : List Int) : R41w3_1 a57 a75 a76 N T41w3_0 (m + 1) (Sl41w3c r4 t36_a o2100_c o2101_c o2102_c o2103_c o2104_c o2105_c) = cond (((r4.1.getD t36_a.toNat ([(0 : Int), (0 : Int), (0 : Int)] : List Int)).getD 1 (0 : Int)) == (-1 : Int)) (chk (small (o2102_c.length + 1) 8) ((R41w3_1 a57 a75 a76 N T41w3_0 m (Sl41w3d r4 t36_a o2100_c o2101_c (o2102_c ++ ([t36_a] : List Int)) o2103_c o2104_c o2105_c))))
      (cond (((r4.1.getD t36_a.toNat ([(0 : Int), (0 : Int), (0 : Int)] : List Int)).getD 1 (0 : Int)) == (1 : Int)) (chk (small (o2103_c.length + 1) 8) ((R41w3_1 a57 a75 a76 N T41w3_0 m (Sl41w3d r4 t36_a o2100_c o2101_c o2102_c (o2103_c ++ ([t36_a] : List Int)) o2104_c o2105_c))))
      ((R41w3_1 a57 a75 a76 N T41w3_0 m (Sl41w3d r4 t36_a o2100_c o2101_c o2102_c o2103_c o2104_c o2105_c)))) := by kernel_rfl
theorem ql41w3c (a57 : Int → Int → Int → Option (Bool)) (a75 : (List (List Int)) → Int → (List Int) → (List Int) → Int → Option (List (List Int) × Bool)) (a76 : Int → Option (List (List Int))) (N : Nat) (r4 : List (List Int) × Bool) (t36_a : Int) (T41w3_0 : TS → Option (List (List Int × List Int × Unit) × Int)) : ∀ (m : Nat) (o2100_c : List Int) (o2101_c : List Int) (o2102_c : List Int) (o2103_c : List Int) (o2104_c : List Int) (o2105_c : List Int), R41w3_1 a57 a75 a76 N T41w3_0 m (Sl41w3c r4 t36_a o2100_c o2101_c o2102_c o2103_c o2104_c o2105_c) = l41w3c a57 a75 a76 N r4 t36_a (fun y0 y1 y2 y3 y4 y5 y6 => T41w3_0 (Sl41w3a r4 y0 y1 y2 y3 y4 y5 y6)) m o2100_c o2101_c o2102_c o2103_c o2104_c o2105_c
        | 0, _, _, _, _, _, _ => rfl
        | m + 1, o2100_c, o2101_c, o2102_c, o2103_c, o2104_c, o2105_c => by rw [wl41w3c]; simp only [l41w3c, ql41w3d, ql41w3c a57 a75 a76 N r4 t36_a T41w3_0 m]
def l41w3b (a57 : Int → Int → Int → Option (Bool)) (a75 : (List (List Int)) → Int → (List Int) → (List Int) → Int → Option (List (List Int) × Bool)) (a76 : Int → Option (List (List Int))) (N : Nat) (r4 : List (List Int) × Bool) (t36_a : Int) (rec_l41w3a : Int → (List Int) → (List Int) → (List Int) → (List Int) → (List Int) → (List Int) → Option (List (List Int × List Int × Unit) × Int)) : Nat → (List Int) → (List Int) → (List Int) → (List Int) → (List Int) → (List Int) → Option (List (List Int × List Int × Unit) × Int)
  | 0, _, _, _, _, _, _ => none
  | n + 1, o2100_b, o2101_b, o2102_b, o2103_b, o2104_b, o2105_b => cond (((r4.1.getD t36_a.toNat ([(0 : Int), (0 : Int), (0 : Int)] : List Int)).getD 0 (0 : Int)) == (-1 : Int)) (chk (small (o2100_b.length + 1) 8) ((l41w3c a57 a75 a76 N r4 t36_a rec_l41w3a n (o2100_b ++ ([t36_a] : List Int)) o2101_b o2102_b o2103_b o2104_b o2105_b)))
      (cond (((r4.1.getD t36_a.toNat ([(0 : Int), (0 : Int), (0 : Int)] : List Int)).getD 0 (0 : Int)) == (1 : Int)) (chk (small (o2101_b.length + 1) 8) ((l41w3c a57 a75 a76 N r4 t36_a rec_l41w3a n o2100_b (o2101_b ++ ([t36_a] : List Int)) o2102_b o2103_b o2104_b o2105_b)))
      ((l41w3c a57 a75 a76 N r4 t36_a rec_l41w3a n o2100_b o2101_b o2102_b o2103_b o2104_b o2105_b)))
theorem wl41w3b (a57 : Int → Int → Int → Option (Bool)) (a75 : (List (List Int)) → Int → (List Int) → (List Int) → Int → Option (List (List Int) × Bool)) (a76 : Int → Option (List (List Int))) (N : Nat) (r4 : List (List Int) × Bool) (t36_a : Int) (T41w3_0 : TS → Option (List (List Int × List Int × Unit) × Int)) (m : Nat) (o2100_b : List Int) (o2101_b : List Int) (o2102_b : List Int) (o2103_b : List Int) (o2104_b : List Int) (o2105_b : List Int) : R41w3_1 a57 a75 a76 N T41w3_0 (m + 1) (Sl41w3b r4 t36_a o2100_b o2101_b o2102_b o2103_b o2104_b o2105_b) = cond (((r4.1.getD t36_a.toNat ([(0 : Int), (0 : Int), (0 : Int)] : List Int)).getD 0 (0 : Int)) == (-1 : Int)) (chk (small (o2100_b.length + 1) 8) ((R41w3_1 a57 a75 a76 N T41w3_0 m (Sl41w3c r4 t36_a (o2100_b ++ ([t36_a] : List Int)) o2101_b o2102_b o2103_b o2104_b o2105_b))))
      (cond (((r4.1.getD t36_a.toNat ([(0 : Int), (0 : Int), (0 : Int)] : List Int)).getD 0 (0 : Int)) == (1 : Int)) (chk (small (o2101_b.length + 1) 8) ((R41w3_1 a57 a75 a76 N T41w3_0 m (Sl41w3c r4 t36_a o2100_b (o2101_b ++ ([t36_a] : List Int)) o2102_b o2103_b o2104_b o2105_b))))
      ((R41w3_1 a57 a75 a76 N T41w3_0 m (Sl41w3c r4 t36_a o2100_b o2101_b o2102_b o2103_b o2104_b o2105_b)))) := by kernel_rfl
theorem ql41w3b (a57 : Int → Int → Int → Option (Bool)) (a75 : (List (List Int)) → Int → (List Int) → (List Int) → Int → Option (List (List Int) × Bool)) (a76 : Int → Option (List (List Int))) (N : Nat) (r4 : List (List Int) × Bool) (t36_a : Int) (T41w3_0 : TS → Option (List (List Int × List Int × Unit) × Int)) : ∀ (m : Nat) (o2100_b : List Int) (o2101_b : List Int) (o2102_b : List Int) (o2103_b : List Int) (o2104_b : List Int) (o2105_b : List Int), R41w3_1 a57 a75 a76 N T41w3_0 m (Sl41w3b r4 t36_a o2100_b o2101_b o2102_b o2103_b o2104_b o2105_b) = l41w3b a57 a75 a76 N r4 t36_a (fun y0 y1 y2 y3 y4 y5 y6 => T41w3_0 (Sl41w3a r4 y0 y1 y2 y3 y4 y5 y6)) m o2100_b o2101_b o2102_b o2103_b o2104_b o2105_b
        | 0, _, _, _, _, _, _ => rfl
        | m + 1, o2100_b, o2101_b, o2102_b, o2103_b, o2104_b, o2105_b => by rw [wl41w3b]; simp only [l41w3b, ql41w3c, ql41w3b a57 a75 a76 N r4 t36_a T41w3_0 m]
def l41w3a (a57 : Int → Int → Int → Option (Bool)) (a75 : (List (List Int)) → Int → (List Int) → (List Int) → Int → Option (List (List Int) × Bool)) (a76 : Int → Option (List (List Int))) (N : Nat) (r4 : List (List Int) × Bool) : Nat → Int → (List Int) → (List Int) → (List Int) → (List Int) → (List Int) → (List Int) → Option (List (List Int × List Int × Unit) × Int)
  | 0, _, _, _, _, _, _, _ => none
  | n + 1, t36_a, o2100_a, o2101_a, o2102_a, o2103_a, o2104_a, o2105_a => cond (decide (t36_a < (r4.1.length : Int))) (chk (decide (0 ≤ t36_a ∧ t36_a < (r4.1.length : Int))) ((l41w3b a57 a75 a76 N r4 t36_a (fun y0 y1 y2 y3 y4 y5 y6 => (l41w3a a57 a75 a76 N r4 n y0 y1 y2 y3 y4 y5 y6)) N o2100_a o2101_a o2102_a o2103_a o2104_a o2105_a)))
      (some (([(o2100_a, (o2101_a, ())), (o2102_a, (o2103_a, ())), (o2104_a, (o2105_a, ()))] : List (List Int × List Int × Unit)), (0 : Int)))
theorem wl41w3a (a57 : Int → Int → Int → Option (Bool)) (a75 : (List (List Int)) → Int → (List Int) → (List Int) → Int → Option (List (List Int) × Bool)) (a76 : Int → Option (List (List Int))) (N : Nat) (r4 : List (List Int) × Bool) (m : Nat) (t36_a : Int) (o2100_a : List Int) (o2101_a : List Int) (o2102_a : List Int) (o2103_a : List Int) (o2104_a : List Int) (o2105_a : List Int) : R41w3_0 a57 a75 a76 N (m + 1) (Sl41w3a r4 t36_a o2100_a o2101_a o2102_a o2103_a o2104_a o2105_a) = cond (decide (t36_a < (r4.1.length : Int))) (chk (decide (0 ≤ t36_a ∧ t36_a < (r4.1.length : Int))) ((R41w3_1 a57 a75 a76 N (R41w3_0 a57 a75 a76 N m) N (Sl41w3b r4 t36_a o2100_a o2101_a o2102_a o2103_a o2104_a o2105_a))))
      (some (([(o2100_a, (o2101_a, ())), (o2102_a, (o2103_a, ())), (o2104_a, (o2105_a, ()))] : List (List Int × List Int × Unit)), (0 : Int))) := by kernel_rfl
theorem ql41w3a (a57 : Int → Int → Int → Option (Bool)) (a75 : (List (List Int)) → Int → (List Int) → (List Int) → Int → Option (List (List Int) × Bool)) (a76 : Int → Option (List (List Int))) (N : Nat) (r4 : List (List Int) × Bool) : ∀ (m : Nat) (t36_a : Int) (o2100_a : List Int) (o2101_a : List Int) (o2102_a : List Int) (o2103_a : List Int) (o2104_a : List Int) (o2105_a : List Int), R41w3_0 a57 a75 a76 N m (Sl41w3a r4 t36_a o2100_a o2101_a o2102_a o2103_a o2104_a o2105_a) = l41w3a a57 a75 a76 N r4 m t36_a o2100_a o2101_a o2102_a o2103_a o2104_a o2105_a
        | 0, _, _, _, _, _, _, _ => rfl
        | m + 1, t36_a, o2100_a, o2101_a, o2102_a, o2103_a, o2104_a, o2105_a => by rw [wl41w3a]; simp only [l41w3a, ql41w3b, ql41w3a a57 a75 a76 N r4 m]
def m41w3 (a57 : Int → Int → Int → Option (Bool)) (a75 : (List (List Int)) → Int → (List Int) → (List Int) → Int → Option (List (List Int) × Bool)) (a76 : Int → Option (List (List Int))) (N : Nat) (stones0 : Int) : Option (List (List Int × List Int × Unit) × Int) :=
      (a57 (1 : Int) stones0 (13 : Int)).bind fun r1 =>
      cond (!r1) (some (([] : List (List Int × List Int × Unit)), (3 : Int)))
      ((a57 (0 : Int) (3 : Int) (3 : Int)).bind fun r2 =>
      cond (!r2) (some (([] : List (List Int × List Int × Unit)), (3 : Int)))
      ((a76 (3 : Int)).bind fun r3 =>
      (a75 r3 stones0 ([(0 : Int), (0 : Int), (0 : Int)] : List Int) ([(0 : Int), (0 : Int), (0 : Int)] : List Int) (3 : Int)).bind fun r4 =>
      cond (!r4.2) (some (([] : List (List Int × List Int × Unit)), (14 : Int)))
      ((l41w3a a57 a75 a76 N r4 N (0 : Int) ([] : List Int) ([] : List Int) ([] : List Int) ([] : List Int) ([] : List Int) ([] : List Int)))))
theorem wm41w3 (a57 : Int → Int → Int → Option (Bool)) (a75 : (List (List Int)) → Int → (List Int) → (List Int) → Int → Option (List (List Int) × Bool)) (a76 : Int → Option (List (List Int))) (N : Nat) (stones0 : Int) : callF (E41w3 a57 a75 a76) lv41w3 N en41w3 c41w3 (resOf Try.f41) 77 [.dv (.int .i64) stones0, .dv (.int .i64) (3 : Int)] [] dec41w3 = (a57 (1 : Int) stones0 (13 : Int)).bind fun r1 =>
      cond (!r1) (some (([] : List (List Int × List Int × Unit)), (3 : Int)))
      ((a57 (0 : Int) (3 : Int) (3 : Int)).bind fun r2 =>
      cond (!r2) (some (([] : List (List Int × List Int × Unit)), (3 : Int)))
      ((a76 (3 : Int)).bind fun r3 =>
      (a75 r3 stones0 ([(0 : Int), (0 : Int), (0 : Int)] : List Int) ([(0 : Int), (0 : Int), (0 : Int)] : List Int) (3 : Int)).bind fun r4 =>
      cond (!r4.2) (some (([] : List (List Int × List Int × Unit)), (14 : Int)))
      ((R41w3_0 a57 a75 a76 N N (Sl41w3a r4 (0 : Int) ([] : List Int) ([] : List Int) ([] : List Int) ([] : List Int) ([] : List Int) ([] : List Int)))))) := by kernel_rfl
theorem k41w3 (a57 : Int → Int → Int → Option (Bool)) (a75 : (List (List Int)) → Int → (List Int) → (List Int) → Int → Option (List (List Int) × Bool)) (a76 : Int → Option (List (List Int))) (N : Nat) (stones0 : Int) : callF (E41w3 a57 a75 a76) lv41w3 N en41w3 c41w3 (resOf Try.f41) 77 [.dv (.int .i64) stones0, .dv (.int .i64) (3 : Int)] [] dec41w3 = m41w3 a57 a75 a76 N stones0 := by rw [wm41w3]; simp only [m41w3, ql41w3a]
theorem hs41w3 (a57 : Int → Int → Int → Option (Bool)) (a75 : (List (List Int)) → Int → (List Int) → (List Int) → Int → Option (List (List Int) × Bool)) (a76 : Int → Option (List (List Int))) (h57 : FnOk Try.prog 57 (F57 a57)) (h75 : FnOk Try.prog 75 (F75 a75)) (h76 : FnOk Try.prog 76 (F76 a76)) (N : Nat) (stones0 : Int) (r : List (List Int × List Int × Unit) × Int) (hN : m41w3 a57 a75 a76 N stones0 = some r) : HSpec Try.prog 41 [.dv (.int .i64) stones0, .dv (.int .i64) (3 : Int)] [] fun x o => x = (.tup 2 fun i => ([.dv (.sl (.pair (.sl (.int .i64)) (.pair (.sl (.int .i64)) (.unit)))) r.1, .dv (.int .i64) r.2] : List TV).getD i .any : TV) ∧ o = [] := by
  refine lifted (L := [(57, F57 a57), (75, F75 a75), (76, F76 a76)]) (rc := (fun i => ([(33, [])] : List (Nat × List (Option DT))).lookup i)) (fz := nfz) (fn := Try.f41) (by kernel_rfl) (by kernel_rfl) (by kernel_rfl) (by kernel_rfl) rfl ?_ ((k41w3 a57 a75 a76 N _).trans hN) ?_
  · intro p hp; simp only [List.mem_cons, List.not_mem_nil, or_false] at hp; rcases hp with rfl | rfl | rfl
    · exact h57
    · exact h75
    · exact h76
  · intro l o hd
    simp only [dec41w3] at hd
    split at hd
    · obtain rfl := Option.some.inj hd; exact ⟨rfl, rfl⟩
    · cases hd
def E41 (a57 : Int → Int → Int → Option (Bool)) (a75 : (List (List Int)) → Int → (List Int) → (List Int) → Int → Option (List (List Int) × Bool)) (a76 : Int → Option (List (List Int))) : Env := mkE TI TY [(57, F57 a57), (75, F75 a75), (76, F76 a76)] nrc nfz
noncomputable def c41 : Code := bodyOf Try.f41
def nm41_0 : Norm := ⟨[1, 8, 34, 35, 36], [33, 1271500], [], []⟩
def nm41_1 : Norm := ⟨[1, 8, 9, 10, 34, 35, 36, 41, 42], [33, 10, 1271500], [], []⟩
def lv41 : Nat → Option Norm := norms [(8, nm41_0), (11, nm41_1)]
def en41 : End := ⟨[(79, .sl (.pair (.sl (.int .i64)) (.pair (.sl (.int .i64)) (.unit))))], ⟨[79, 80], [], [], []⟩⟩
def dec41 (l : List TV) (o : List (Nat × TO)) : Option (List (List Int × List Int × Unit) × Int) := match l, o with | [.dv (.sl (.pair (.sl (.int .i64)) (.pair (.sl (.int .i64)) (.unit)))) x0, .dv (.int .i64) x1], [] => some (x0, x1) | _, _ => none
noncomputable def K41_0 (a57 : Int → Int → Int → Option (Bool)) (a75 : (List (List Int)) → Int → (List Int) → (List Int) → Int → Option (List (List Int) × Bool)) (a76 : Int → Option (List (List Int))) (N : Nat) : Kont (List (List Int × List Int × Unit) × Int) := kont (E41 a57 a75 a76) lv41 N c41 [1, 1, 1, 1, 1, 0, 1, 0] (fin TI en41 (resOf Try.f41) dec41)
noncomputable def R41_0 (a57 : Int → Int → Int → Option (Bool)) (a75 : (List (List Int)) → Int → (List Int) → (List Int) → Int → Option (List (List Int) × Bool)) (a76 : Int → Option (List (List Int))) (N : Nat) (m : Nat) : TS → Option (List (List Int × List Int × Unit) × Int) := loopK (den (E41 a57 a75 a76) lv41 N (sub c41 [1, 1, 1, 1, 1, 0, 1, 0, 0])) (TS.norm nm41_0) (K41_0 a57 a75 a76 N) m
noncomputable def K41_1 (a57 : Int → Int → Int → Option (Bool)) (a75 : (List (List Int)) → Int → (List Int) → (List Int) → Int → Option (List (List Int) × Bool)) (a76 : Int → Option (List (List Int))) (N : Nat) (T41_0 : TS → Option (List (List Int × List Int × Unit) × Int)) : Kont (List (List Int × List Int × Unit) × Int) := kont (E41 a57 a75 a76) lv41 N (sub c41 [1, 1, 1, 1, 1, 0, 1, 0, 0]) [1, 1, 0, 0, 1, 1, 0] (kloop (TS.norm nm41_0) (K41_0 a57 a75 a76 N) T41_0)
noncomputable def R41_1 (a57 : Int → Int → Int → Option (Bool)) (a75 : (List (List Int)) → Int → (List Int) → (List Int) → Int → Option (List (List Int) × Bool)) (a76 : Int → Option (List (List Int))) (N : Nat) (T41_0 : TS → Option (List (List Int × List Int × Unit) × Int)) (m : Nat) : TS → Option (List (List Int × List Int × Unit) × Int) := loopK (den (E41 a57 a75 a76) lv41 N (sub c41 [1, 1, 1, 1, 1, 0, 1, 0, 0, 1, 1, 0, 0, 1, 1, 0, 0])) (TS.norm nm41_1) (K41_1 a57 a75 a76 N T41_0) m
def Sl41b (weighings1 : Int) (r4 : List (List Int) × Bool) (t36_a : Int) (t42_b : Int) : TS := ⟨slots 79 [(1, .dv (.int .i64) weighings1), (8, .row 33), (9, .dv (.int .i64) t36_a), (10, .ptr 10 0 []), (34, .row 1271500), (35, .dv (.int .i64) (r4.1.length : Int)), (36, .dv (.int .i64) t36_a), (41, .dv (.int .i64) weighings1), (42, .dv (.int .i64) t42_b)], [(33, .row (.pair (.sl (.int .i64)) (.pair (.sl (.int .i64)) (.unit))) (List.replicate weighings1.toNat (([] : List Int), (([] : List Int), ())))), (10, .row (.arr 3 (.int .i64)) ([r4.1.getD t36_a.toNat ([(0 : Int), (0 : Int), (0 : Int)] : List Int)] : List (List Int))), (1271500, .row (.arr 3 (.int .i64)) r4.1)]⟩
def Sl41a (weighings1 : Int) (r4 : List (List Int) × Bool) (t36_a : Int) : TS := ⟨slots 79 [(1, .dv (.int .i64) weighings1), (8, .row 33), (34, .row 1271500), (35, .dv (.int .i64) (r4.1.length : Int)), (36, .dv (.int .i64) t36_a)], [(33, .row (.pair (.sl (.int .i64)) (.pair (.sl (.int .i64)) (.unit))) (List.replicate weighings1.toNat (([] : List Int), (([] : List Int), ())))), (1271500, .row (.arr 3 (.int .i64)) r4.1)]⟩
def l41b (a57 : Int → Int → Int → Option (Bool)) (a75 : (List (List Int)) → Int → (List Int) → (List Int) → Int → Option (List (List Int) × Bool)) (a76 : Int → Option (List (List Int))) (N : Nat) (weighings1 : Int) (r4 : List (List Int) × Bool) (t36_a : Int) (rec_l41a : Int → Option (List (List Int × List Int × Unit) × Int)) : Nat → Int → Option (List (List Int × List Int × Unit) × Int)
  | 0, _ => none
  | n + 1, t42_b => cond (decide (t42_b < weighings1)) (chk (decide (0 ≤ t42_b ∧ t42_b < (3 : Int))) (cond (((r4.1.getD t36_a.toNat ([(0 : Int), (0 : Int), (0 : Int)] : List Int)).getD t42_b.toNat (0 : Int)) == (-1 : Int)) (chk (decide (0 ≤ t42_b ∧ t42_b < ((List.replicate weighings1.toNat (([] : List Int), (([] : List Int), ()))).length : Int))) (none))
      (cond (((r4.1.getD t36_a.toNat ([(0 : Int), (0 : Int), (0 : Int)] : List Int)).getD t42_b.toNat (0 : Int)) == (1 : Int)) (chk (decide (0 ≤ t42_b ∧ t42_b < ((List.replicate weighings1.toNat (([] : List Int), (([] : List Int), ()))).length : Int))) (none))
      ((l41b a57 a75 a76 N weighings1 r4 t36_a rec_l41a n (w64 (t42_b + (1 : Int))))))))
      ((rec_l41a (w64 (t36_a + (1 : Int)))))
theorem wl41b (a57 : Int → Int → Int → Option (Bool)) (a75 : (List (List Int)) → Int → (List Int) → (List Int) → Int → Option (List (List Int) × Bool)) (a76 : Int → Option (List (List Int))) (N : Nat) (weighings1 : Int) (r4 : List (List Int) × Bool) (t36_a : Int) (T41_0 : TS → Option (List (List Int × List Int × Unit) × Int)) (m : Nat) (t42_b : Int) : R41_1 a57 a75 a76 N T41_0 (m + 1) (Sl41b weighings1 r4 t36_a t42_b) = cond (decide (t42_b < weighings1)) (chk (decide (0 ≤ t42_b ∧ t42_b < (3 : Int))) (cond (((r4.1.getD t36_a.toNat ([(0 : Int), (0 : Int), (0 : Int)] : List Int)).getD t42_b.toNat (0 : Int)) == (-1 : Int)) (chk (decide (0 ≤ t42_b ∧ t42_b < ((List.replicate weighings1.toNat (([] : List Int), (([] : List Int), ()))).length : Int))) (none))
      (cond (((r4.1.getD t36_a.toNat ([(0 : Int), (0 : Int), (0 : Int)] : List Int)).getD t42_b.toNat (0 : Int)) == (1 : Int)) (chk (decide (0 ≤ t42_b ∧ t42_b < ((List.replicate weighings1.toNat (([] : List Int), (([] : List Int), ()))).length : Int))) (none))
      ((R41_1 a57 a75 a76 N T41_0 m (Sl41b weighings1 r4 t36_a (w64 (t42_b + (1 : Int)))))))))
      ((T41_0 (Sl41a weighings1 r4 (w64 (t36_a + (1 : Int)))))) := by kernel_rfl
theorem ql41b (a57 : Int → Int → Int → Option (Bool)) (a75 : (List (List Int)) → Int → (List Int) → (List Int) → Int → Option (List (List Int) × Bool)) (a76 : Int → Option (List (List Int))) (N : Nat) (weighings1 : Int) (r4 : List (List Int) × Bool) (t36_a : Int) (T41_0 : TS → Option (List (List Int × List Int × Unit) × Int)) : ∀ (m : Nat) (t42_b : Int), R41_1 a57 a75 a76 N T41_0 m (Sl41b weighings1 r4 t36_a t42_b) = l41b a57 a75 a76 N weighings1 r4 t36_a (fun y0 => T41_0 (Sl41a weighings1 r4 y0)) m t42_b
        | 0, _ => rfl
        | m + 1, t42_b => by rw [wl41b]; simp only [l41b, ql41b a57 a75 a76 N weighings1 r4 t36_a T41_0 m]
def l41a (a57 : Int → Int → Int → Option (Bool)) (a75 : (List (List Int)) → Int → (List Int) → (List Int) → Int → Option (List (List Int) × Bool)) (a76 : Int → Option (List (List Int))) (N : Nat) (weighings1 : Int) (r4 : List (List Int) × Bool) : Nat → Int → Option (List (List Int × List Int × Unit) × Int)
  | 0, _ => none
  | n + 1, t36_a => cond (decide (t36_a < (r4.1.length : Int))) (chk (decide (0 ≤ t36_a ∧ t36_a < (r4.1.length : Int))) ((l41b a57 a75 a76 N weighings1 r4 t36_a (fun y0 => (l41a a57 a75 a76 N weighings1 r4 n y0)) N (0 : Int))))
      (some (List.replicate weighings1.toNat (([] : List Int), (([] : List Int), ())), (0 : Int)))
theorem wl41a (a57 : Int → Int → Int → Option (Bool)) (a75 : (List (List Int)) → Int → (List Int) → (List Int) → Int → Option (List (List Int) × Bool)) (a76 : Int → Option (List (List Int))) (N : Nat) (weighings1 : Int) (r4 : List (List Int) × Bool) (m : Nat) (t36_a : Int) : R41_0 a57 a75 a76 N (m + 1) (Sl41a weighings1 r4 t36_a) = cond (decide (t36_a < (r4.1.length : Int))) (chk (decide (0 ≤ t36_a ∧ t36_a < (r4.1.length : Int))) ((R41_1 a57 a75 a76 N (R41_0 a57 a75 a76 N m) N (Sl41b weighings1 r4 t36_a (0 : Int)))))
      (some (List.replicate weighings1.toNat (([] : List Int), (([] : List Int), ())), (0 : Int))) := by kernel_rfl
theorem ql41a (a57 : Int → Int → Int → Option (Bool)) (a75 : (List (List Int)) → Int → (List Int) → (List Int) → Int → Option (List (List Int) × Bool)) (a76 : Int → Option (List (List Int))) (N : Nat) (weighings1 : Int) (r4 : List (List Int) × Bool) : ∀ (m : Nat) (t36_a : Int), R41_0 a57 a75 a76 N m (Sl41a weighings1 r4 t36_a) = l41a a57 a75 a76 N weighings1 r4 m t36_a
        | 0, _ => rfl
        | m + 1, t36_a => by rw [wl41a]; simp only [l41a, ql41b, ql41a a57 a75 a76 N weighings1 r4 m]
def m41 (a57 : Int → Int → Int → Option (Bool)) (a75 : (List (List Int)) → Int → (List Int) → (List Int) → Int → Option (List (List Int) × Bool)) (a76 : Int → Option (List (List Int))) (N : Nat) (stones0 : Int) (weighings1 : Int) : Option (List (List Int × List Int × Unit) × Int) :=
      (a57 (1 : Int) stones0 (13 : Int)).bind fun r1 =>
      cond (!r1) (some (([] : List (List Int × List Int × Unit)), (3 : Int)))
      ((a57 (0 : Int) weighings1 (3 : Int)).bind fun r2 =>
      cond (!r2) (some (([] : List (List Int × List Int × Unit)), (3 : Int)))
      ((a76 weighings1).bind fun r3 =>
      (a75 r3 stones0 ([(0 : Int), (0 : Int), (0 : Int)] : List Int) ([(0 : Int), (0 : Int), (0 : Int)] : List Int) weighings1).bind fun r4 =>
      cond (!r4.2) (some (([] : List (List Int × List Int × Unit)), (14 : Int)))
      (chk (mkOk weighings1 weighings1 48) ((l41a a57 a75 a76 N weighings1 r4 N (0 : Int))))))
theorem wm41 (a57 : Int → Int → Int → Option (Bool)) (a75 : (List (List Int)) → Int → (List Int) → (List Int) → Int → Option (List (List Int) × Bool)) (a76 : Int → Option (List (List Int))) (N : Nat) (stones0 : Int) (weighings1 : Int) : callF (E41 a57 a75 a76) lv41 N en41 c41 (resOf Try.f41) 77 [.dv (.int .i64) stones0, .dv (.int .i64) weighings1] [] dec41 = (a57 (1 : Int) stones0 (13 : Int)).bind fun r1 =>
      cond (!r1) (some (([] : List (List Int × List Int × Unit)), (3 : Int)))
      ((a57 (0 : Int) weighings1 (3 : Int)).bind fun r2 =>
      cond (!r2) (some (([] : List (List Int × List Int × Unit)), (3 : Int)))
      ((a76 weighings1).bind fun r3 =>
      (a75 r3 stones0 ([(0 : Int), (0 : Int), (0 : Int)] : List Int) ([(0 : Int), (0 : Int), (0 : Int)] : List Int) weighings1).bind fun r4 =>
      cond (!r4.2) (some (([] : List (List Int × List Int × Unit)), (14 : Int)))
      (chk (mkOk weighings1 weighings1 48) ((R41_0 a57 a75 a76 N N (Sl41a weighings1 r4 (0 : Int))))))) := by kernel_rfl
theorem k41 (a57 : Int → Int → Int → Option (Bool)) (a75 : (List (List Int)) → Int → (List Int) → (List Int) → Int → Option (List (List Int) × Bool)) (a76 : Int → Option (List (List Int))) (N : Nat) (stones0 : Int) (weighings1 : Int) : callF (E41 a57 a75 a76) lv41 N en41 c41 (resOf Try.f41) 77 [.dv (.int .i64) stones0, .dv (.int .i64) weighings1] [] dec41 = m41 a57 a75 a76 N stones0 weighings1 := by rw [wm41]; simp only [m41, ql41a]
theorem ok41 (a57 : Int → Int → Int → Option (Bool)) (a75 : (List (List Int)) → Int → (List Int) → (List Int) → Int → Option (List (List Int) × Bool)) (a76 : Int → Option (List (List Int))) (h57 : FnOk Try.prog 57 (F57 a57)) (h75 : FnOk Try.prog 75 (F75 a75)) (h76 : FnOk Try.prog 76 (F76 a76)) (a : Int → Int → Option (List (List Int × List Int × Unit) × Int)) (h : ∀ stones0 weighings1 r, a stones0 weighings1 = some r → (∃ N, m41 a57 a75 a76 N stones0 weighings1 = some r) ∨ HSpec Try.prog 41 [.dv (.int .i64) stones0, .dv (.int .i64) weighings1] [] fun x o => x = (.tup 2 fun i => ([.dv (.sl (.pair (.sl (.int .i64)) (.pair (.sl (.int .i64)) (.unit)))) r.1, .dv (.int .i64) r.2] : List TV).getD i .any : TV) ∧ o = []) : FnOk Try.prog 41 (F41 a) := by
  intro args Of x hx
  simp only [F41] at hx
  split at hx
  · rename_i stones0 weighings1
    rcases h _ _ _ hx with ⟨N, hN⟩ | hN
    rotate_left
    · exact hN
    refine lifted (L := [(57, F57 a57), (75, F75 a75), (76, F76 a76)]) (rc := nrc) (fz := nfz) (fn := Try.f41) (by kernel_rfl) (by kernel_rfl) (by kernel_rfl) (by kernel_rfl) rfl ?_ ((k41 a57 a75 a76 N _ _).trans hN) ?_
    · intro p hp; simp only [List.mem_cons, List.not_mem_nil, or_false] at hp; rcases hp with rfl | rfl | rfl
      · exact h57
      · exact h75
      · exact h76
    · intro l o hd
      simp only [dec41] at hd
      split at hd
      · obtain rfl := Option.some.inj hd; exact ⟨rfl, rfl⟩
      · cases hd
  · cases hx
def E51 : Env := mkE TI TY [] nrc nfz
noncomputable def c51 : Code := bodyOf Try.f51
def lv51 : Nat → Option Norm := norms []
def en51 : End := ⟨[(4, .sl (.int .i64))], ⟨[4], [], [], []⟩⟩
def dec51 (l : List TV) (o : List (Nat × TO)) : Option (List Int) := match l, o with | [.dv (.sl (.int .i64)) x0], [] => some (x0) | _, _ => none
def m51 (N : Nat) (l0 : List Int) : Option (List Int) :=
      some l0
theorem k51 (N : Nat) (l0 : List Int) : callF (E51) lv51 N en51 c51 (resOf Try.f51) 3 [.dv (.sl (.int .i64)) l0] [] dec51 = m51 N l0 := by kernel_rfl
theorem ok51 (a : (List Int) → Option (List Int)) (h : ∀ l0 r, a l0 = some r → (∃ N, m51 N l0 = some r)) : FnOk Try.prog 51 (F51 a) := by
  intro args Of x hx
  simp only [F51] at hx
  split at hx
  · rename_i l0
    obtain ⟨N, hN⟩ := h _ _ hx
    refine lifted (L := []) (rc := nrc) (fz := nfz) (fn := Try.f51) (by kernel_rfl) (by kernel_rfl) (by kernel_rfl) (by kernel_rfl) rfl ?_ ((k51 N _).trans hN) ?_
    · intro p hp; cases hp
    · intro l o hd
      simp only [dec51] at hd
      split at hd
      · obtain rfl := Option.some.inj hd; exact ⟨rfl, rfl⟩
      · cases hd
  · cases hx
def E54 (a51 : (List Int) → Option (List Int)) : Env := mkE TI TY [(51, F51 a51)] nrc nfz
noncomputable def c54 : Code := bodyOf Try.f54
def lv54 : Nat → Option Norm := norms []
def en54 : End := ⟨[(7, .sl (.pair (.sl (.int .i64)) (.pair (.sl (.int .i64)) (.unit))))], ⟨[7], [], [], []⟩⟩
def dec54 (l : List TV) (o : List (Nat × TO)) : Option (List (List Int × List Int × Unit)) := match l, o with | [.dv (.sl (.pair (.sl (.int .i64)) (.pair (.sl (.int .i64)) (.unit)))) x0], [] => some (x0) | _, _ => none
def m54 (a51 : (List Int) → Option (List Int)) (N : Nat) : Option (List (List Int × List Int × Unit)) :=
      (a51 ([(0 : Int)] : List Int)).bind fun r1 =>
      (a51 ([(1 : Int)] : List Int)).bind fun r2 =>
      some ([(r1, (r2, ()))] : List (List Int × List Int × Unit))
theorem k54 (a51 : (List Int) → Option (List Int)) (N : Nat) : callF (E54 a51) lv54 N en54 c54 (resOf Try.f54) 7 [] [] dec54 = m54 a51 N := by kernel_rfl
theorem ok54 (a51 : (List Int) → Option (List Int)) (h51 : FnOk Try.prog 51 (F51 a51)) (a : Option (List (List Int × List Int × Unit))) (h : ∀ r, a = some r → (∃ N, m54 a51 N = some r)) : FnOk Try.prog 54 (F54 a) := by
  intro args Of x hx
  simp only [F54] at hx
  split at hx
  · skip
    obtain ⟨N, hN⟩ := h _ hx
    refine lifted (L := [(51, F51 a51)]) (rc := nrc) (fz := nfz) (fn := Try.f54) (by kernel_rfl) (by kernel_rfl) (by kernel_rfl) (by kernel_rfl) rfl ?_ ((k54 a51 N).trans hN) ?_
    · intro p hp; simp only [List.mem_cons, List.not_mem_nil, or_false] at hp; rcases hp with rfl; exact h51
    · intro l o hd
      simp only [dec54] at hd
      split at hd
      · obtain rfl := Option.some.inj hd; exact ⟨rfl, rfl⟩
      · cases hd
  · cases hx
def E16 (a17 : (List Int) → Option (List Int × Int)) (a19 : (List Int) → Option (Int × Int)) (a21 : (List Int) → (List Int) → Option (Bool)) (a24 : Int → Option (Int × Int)) (a26 : Int → Option (List Int × Int)) (a27 : (List Int) → Int → Option (List Int × Int)) (a29 : (List Int) → (List Int) → Int → Option (Int)) (a33 : Int → (List (List Int × List Int × Unit)) → Int → Int → Option (List Int × Int)) (a37 : Int → (List (List Int × List Int × Unit)) → Option (List Int × List Int × Int)) (a39 : Int → (List (List Int × List Int × Unit)) → (List Int) → Option (List (List Int) × Int)) (a41 : Int → Int → Option (List (List Int × List Int × Unit) × Int)) (a51 : (List Int) → Option (List Int)) (a54 : Option (List (List Int × List Int × Unit))) : Env := mkE TI TY [(17, F17 a17), (19, F19 a19), (21, F21 a21), (24, F24 a24), (26, F26 a26), (27, F27 a27), (29, F29 a29), (33, F33 a33), (37, F37 a37), (39, F39 a39), (41, F41 a41), (51, F51 a51), (54, F54 a54)] nrc nfz
noncomputable def c16 : Code := bodyOf Try.f16
def lv16 : Nat → Option Norm := norms []
def en16 : End := ⟨[], ⟨[191], [], [], []⟩⟩
def dec16 (l : List TV) (o : List (Nat × TO)) : Option (Bool) := match l, o with | [.dv (.bool) x0], [] => some (x0) | _, _ => none
def m16 (a17 : (List Int) → Option (List Int × Int)) (a19 : (List Int) → Option (Int × Int)) (a21 : (List Int) → (List Int) → Option (Bool)) (a24 : Int → Option (Int × Int)) (a26 : Int → Option (List Int × Int)) (a27 : (List Int) → Int → Option (List Int × Int)) (a29 : (List Int) → (List Int) → Int → Option (Int)) (a33 : Int → (List (List Int × List Int × Unit)) → Int → Int → Option (List Int × Int)) (a37 : Int → (List (List Int × List Int × Unit)) → Option (List Int × List Int × Int)) (a39 : Int → (List (List Int × List Int × Unit)) → (List Int) → Option (List (List Int) × Int)) (a41 : Int → Int → Option (List (List Int × List Int × Unit) × Int)) (a51 : (List Int) → Option (List Int)) (a54 : Option (List (List Int × List Int × Unit))) (N : Nat) : Option (Bool) :=
      (a51 ([(1 : Int), (3 : Int)] : List Int)).bind fun r1 =>
      (a17 r1).bind fun r2 =>
      (a51 ([(1 : Int), (3 : Int), (9 : Int)] : List Int)).bind fun r3 =>
      (a19 r3).bind fun r4 =>
      (a51 ([(1 : Int), (3 : Int), (9 : Int)] : List Int)).bind fun r5 =>
      (a27 r5 (5 : Int)).bind fun r6 =>
      (a24 (14 : Int)).bind fun r7 =>
      (a54).bind fun r8 =>
      (a33 (3 : Int) r8 (1 : Int) (1 : Int)).bind fun r9 =>
      (a54).bind fun r10 =>
      (a37 (3 : Int) r10).bind fun r11 =>
      (a54).bind fun r12 =>
      (a51 ([(-1 : Int)] : List Int)).bind fun r13 =>
      (a39 (3 : Int) r12 r13).bind fun r14 =>
      (a41 (3 : Int) (2 : Int)).bind fun r15 =>
      cond (r2.2 != (0 : Int)) (some false)
      (cond (r4.2 != (0 : Int)) (some false)
      (cond (r6.2 != (0 : Int)) (some false)
      (cond (r7.2 != (0 : Int)) (some false)
      (cond (r9.2 != (0 : Int)) (some false)
      (cond (r11.2.2 != (0 : Int)) (some false)
      (cond (r14.2 != (0 : Int)) (some false)
      (cond (r15.2 != (0 : Int)) (some false)
      ((a37 (3 : Int) r15.1).bind fun r16 =>
      (a41 (13 : Int) (3 : Int)).bind fun r17 =>
      (a26 (13 : Int)).bind fun r18 =>
      cond (r16.2.2 != (14 : Int)) (some false)
      (cond (r17.2 != (14 : Int)) (some false)
      (cond (r18.2 != (0 : Int)) (some false)
      (cond ((r18.1.length : Int) != (3 : Int)) (some false)
      ((a51 ([(1 : Int), (2 : Int), (3 : Int), (4 : Int)] : List Int)).bind fun r19 =>
      (a21 r2.1 r19).bind fun r20 =>
      cond (r20) (cond (r4.1 == (13 : Int)) ((a51 ([(-1 : Int), (-1 : Int), (1 : Int)] : List Int)).bind fun r21 =>
      (a21 r6.1 r21).bind fun r22 =>
      cond (r22) (cond (r7.1 == (4 : Int)) ((a51 ([(1 : Int)] : List Int)).bind fun r23 =>
      (a21 r9.1 r23).bind fun r24 =>
      cond (r24) (cond (DT.beq (.arr 2 (.int .i64)) r11.1 ([(0 : Int), (0 : Int)] : List Int)) (cond (DT.beq (.arr 2 (.int .i64)) r11.2.1 ([(2 : Int), (1 : Int)] : List Int)) (cond ((r14.1.length : Int) == (2 : Int)) (chk (decide (0 ≤ (0 : Int) ∧ (0 : Int) < (r14.1.length : Int))) (cond (DT.beq (.arr 2 (.int .i64)) (r14.1.getD 0 ([(0 : Int), (0 : Int)] : List Int)) ([(0 : Int), (1 : Int)] : List Int)) (chk (decide (0 ≤ (1 : Int) ∧ (1 : Int) < (r14.1.length : Int))) (cond (DT.beq (.arr 2 (.int .i64)) (r14.1.getD 1 ([(0 : Int), (0 : Int)] : List Int)) ([(1 : Int), (-1 : Int)] : List Int)) ((a51 ([(1 : Int), (3 : Int)] : List Int)).bind fun r25 =>
      (a51 ([(1 : Int), (-1 : Int)] : List Int)).bind fun r26 =>
      (a29 r25 r26 (-2 : Int)).bind fun r27 =>
      cond (r27 == (0 : Int)) ((a51 ([(1 : Int), (3 : Int)] : List Int)).bind fun r28 =>
      (a51 ([(1 : Int), (1 : Int)] : List Int)).bind fun r29 =>
      (a29 r28 r29 (3 : Int)).bind fun r30 =>
      some (r30 == (13 : Int)))
      (some false))
      (some false)))
      (some false)))
      (some false))
      (some false))
      (some false))
      (some false))
      (some false))
      (some false))
      (some false))
      (some false)))))))))))))
theorem k16 (a17 : (List Int) → Option (List Int × Int)) (a19 : (List Int) → Option (Int × Int)) (a21 : (List Int) → (List Int) → Option (Bool)) (a24 : Int → Option (Int × Int)) (a26 : Int → Option (List Int × Int)) (a27 : (List Int) → Int → Option (List Int × Int)) (a29 : (List Int) → (List Int) → Int → Option (Int)) (a33 : Int → (List (List Int × List Int × Unit)) → Int → Int → Option (List Int × Int)) (a37 : Int → (List (List Int × List Int × Unit)) → Option (List Int × List Int × Int)) (a39 : Int → (List (List Int × List Int × Unit)) → (List Int) → Option (List (List Int) × Int)) (a41 : Int → Int → Option (List (List Int × List Int × Unit) × Int)) (a51 : (List Int) → Option (List Int)) (a54 : Option (List (List Int × List Int × Unit))) (N : Nat) : callF (E16 a17 a19 a21 a24 a26 a27 a29 a33 a37 a39 a41 a51 a54) lv16 N en16 c16 (resOf Try.f16) 191 [] [] dec16 = m16 a17 a19 a21 a24 a26 a27 a29 a33 a37 a39 a41 a51 a54 N := by kernel_rfl
theorem ok16 (a17 : (List Int) → Option (List Int × Int)) (a19 : (List Int) → Option (Int × Int)) (a21 : (List Int) → (List Int) → Option (Bool)) (a24 : Int → Option (Int × Int)) (a26 : Int → Option (List Int × Int)) (a27 : (List Int) → Int → Option (List Int × Int)) (a29 : (List Int) → (List Int) → Int → Option (Int)) (a33 : Int → (List (List Int × List Int × Unit)) → Int → Int → Option (List Int × Int)) (a37 : Int → (List (List Int × List Int × Unit)) → Option (List Int × List Int × Int)) (a39 : Int → (List (List Int × List Int × Unit)) → (List Int) → Option (List (List Int) × Int)) (a41 : Int → Int → Option (List (List Int × List Int × Unit) × Int)) (a51 : (List Int) → Option (List Int)) (a54 : Option (List (List Int × List Int × Unit))) (h17 : FnOk Try.prog 17 (F17 a17)) (h19 : FnOk Try.prog 19 (F19 a19)) (h21 : FnOk Try.prog 21 (F21 a21)) (h24 : FnOk Try.prog 24 (F24 a24)) (h26 : FnOk Try.prog 26 (F26 a26)) (h27 : FnOk Try.prog 27 (F27 a27)) (h29 : FnOk Try.prog 29 (F29 a29)) (h33 : FnOk Try.prog 33 (F33 a33)) (h37 : FnOk Try.prog 37 (F37 a37)) (h39 : FnOk Try.prog 39 (F39 a39)) (h41 : FnOk Try.prog 41 (F41 a41)) (h51 : FnOk Try.prog 51 (F51 a51)) (h54 : FnOk Try.prog 54 (F54 a54)) (a : Option (Bool)) (h : ∀ r, a = some r → (∃ N, m16 a17 a19 a21 a24 a26 a27 a29 a33 a37 a39 a41 a51 a54 N = some r)) : FnOk Try.prog 16 (F16 a) := by
  intro args Of x hx
  simp only [F16] at hx
  split at hx
  · skip
    obtain ⟨N, hN⟩ := h _ hx
    refine lifted (L := [(17, F17 a17), (19, F19 a19), (21, F21 a21), (24, F24 a24), (26, F26 a26), (27, F27 a27), (29, F29 a29), (33, F33 a33), (37, F37 a37), (39, F39 a39), (41, F41 a41), (51, F51 a51), (54, F54 a54)]) (rc := nrc) (fz := nfz) (fn := Try.f16) (by kernel_rfl) (by kernel_rfl) (by kernel_rfl) (by kernel_rfl) rfl ?_ ((k16 a17 a19 a21 a24 a26 a27 a29 a33 a37 a39 a41 a51 a54 N).trans hN) ?_
    · intro p hp; simp only [List.mem_cons, List.not_mem_nil, or_false] at hp; rcases hp with rfl | rfl | rfl | rfl | rfl | rfl | rfl | rfl | rfl | rfl | rfl | rfl | rfl
      · exact h17
      · exact h19
      · exact h21
      · exact h24
      · exact h26
      · exact h27
      · exact h29
      · exact h33
      · exact h37
      · exact h39
      · exact h41
      · exact h51
      · exact h54
    · intro l o hd
      simp only [dec16] at hd
      split at hd
      · obtain rfl := Option.some.inj hd; exact ⟨rfl, rfl⟩
      · cases hd
  · cases hx
end Go.Proofs.Ytjcgjbdlgmbepaa
