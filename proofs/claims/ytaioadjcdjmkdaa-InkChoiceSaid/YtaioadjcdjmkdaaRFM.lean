/-
  The functions that the law reaches, told as plain functions.
-/
import Derived.Test.YtaioadjcdjmkdaaWM0
namespace Go.Proofs.Ytaioadjcdjmkdaa
open Go.RowKit
set_option linter.unusedVariables false
def E15 : Env := mkE TI TY [] nrc nfz
noncomputable def c15 : Code := bodyOf Try.f15
def nm15_0 : Norm := ⟨[1, 3], [1], [], []⟩
def lv15 : Nat → Option Norm := norms [(4, nm15_0)]
def en15 : End := ⟨[], ⟨[22], [], [], []⟩⟩
def dec15 (l : List TV) (o : List (Nat × TO)) : Option (Bool) := match l, o with | [.dv (.bool) x0], [] => some (x0) | _, _ => none
noncomputable def K15_0 (N : Nat) : Kont (Bool) := kont (E15) lv15 N c15 [1, 1, 0, 1, 0] (fin TI en15 (resOf Try.f15) dec15)
noncomputable def R15_0 (N : Nat) (m : Nat) : TS → Option (Bool) := loopK (den (E15) lv15 N (sub c15 [1, 1, 0, 1, 0, 0])) (TS.norm nm15_0) (K15_0 N) m
def Sl15a (p0 : Int × List (List Int) × Unit) (i3_a : Int) : TS := ⟨slots 22 [(1, .ptr 1 0 []), (3, .dv (.int .i64) i3_a)], [(1, .row (.pair (.int .i64) (.pair (.sl (.sl (.int .i64))) (.unit))) ([p0] : List (Int × List (List Int) × Unit)))]⟩
def l15a (N : Nat) (p0 : Int × List (List Int) × Unit) : Nat → Int → Option (Bool)
  | 0, _ => none
  | n + 1, i3_a => cond (decide (i3_a < (p0.2.1.length : Int))) (chk (decide (0 ≤ i3_a ∧ i3_a < (p0.2.1.length : Int))) (cond (decide (((p0.2.1.getD i3_a.toNat ([] : List Int)).length : Int) > (20 : Int))) (some true)
      ((l15a N p0 n (w64 (i3_a + (1 : Int)))))))
      (some false)
theorem wl15a (N : Nat) (p0 : Int × List (List Int) × Unit) (m : Nat) (i3_a : Int) : R15_0 N (m + 1) (Sl15a p0 i3_a) = cond (decide (i3_a < (p0.2.1.length : Int))) (chk (decide (0 ≤ i3_a ∧ i3_a < (p0.2.1.length : Int))) (cond (decide (((p0.2.1.getD i3_a.toNat ([] : List Int)).length : Int) > (20 : Int))) (some true)
      ((R15_0 N m (Sl15a p0 (w64 (i3_a + (1 : Int))))))))
      (some false) := by kernel_rfl
theorem ql15a (N : Nat) (p0 : Int × List (List Int) × Unit) : ∀ (m : Nat) (i3_a : Int), R15_0 N m (Sl15a p0 i3_a) = l15a N p0 m i3_a
        | 0, _ => rfl
        | m + 1, i3_a => by rw [wl15a]; simp only [l15a, ql15a N p0 m]
def m15 (N : Nat) (p0 : Int × List (List Int) × Unit) : Option (Bool) :=
      cond (decide ((p0.2.1.length : Int) > (20 : Int))) (some true)
      ((l15a N p0 N (0 : Int)))
theorem wm15 (N : Nat) (p0 : Int × List (List Int) × Unit) : callF (E15) lv15 N en15 c15 (resOf Try.f15) 21 [.dv (.pair (.int .i64) (.pair (.sl (.sl (.int .i64))) (.unit))) p0] [] dec15 = cond (decide ((p0.2.1.length : Int) > (20 : Int))) (some true)
      ((R15_0 N N (Sl15a p0 (0 : Int)))) := by kernel_rfl
theorem k15 (N : Nat) (p0 : Int × List (List Int) × Unit) : callF (E15) lv15 N en15 c15 (resOf Try.f15) 21 [.dv (.pair (.int .i64) (.pair (.sl (.sl (.int .i64))) (.unit))) p0] [] dec15 = m15 N p0 := by rw [wm15]; simp only [m15, ql15a]
theorem ok15 (a : (Int × List (List Int) × Unit) → Option (Bool)) (h : ∀ p0 r, a p0 = some r → (∃ N, m15 N p0 = some r)) : FnOk Try.prog 15 (F15 a) := by
  intro args Of x hx
  simp only [F15] at hx
  split at hx
  · rename_i p0
    obtain ⟨N, hN⟩ := h _ _ hx
    refine lifted (L := []) (rc := nrc) (fz := nfz) (fn := Try.f15) (by kernel_rfl) (by kernel_rfl) (by kernel_rfl) (by kernel_rfl) rfl ?_ ((k15 N _).trans hN) ?_
    · intro p hp; cases hp
    · intro l o hd
      simp only [dec15] at hd
      split at hd
      · obtain rfl := Option.some.inj hd; exact ⟨rfl, rfl⟩
      · cases hd
  · cases hx
def E86 : Env := mkE TI TY [] nrc nfz
noncomputable def c86 : Code := bodyOf Try.f86
def lv86 : Nat → Option Norm := norms []
def en86 : End := ⟨[], ⟨[15], [], [], []⟩⟩
def dec86 (l : List TV) (o : List (Nat × TO)) : Option (Bool) := match l, o with | [.dv (.bool) x0], [] => some (x0) | _, _ => none
def m86 (N : Nat) (n0 : Int) (lo1 : Int) (hi2 : Int) : Option (Bool) :=
      cond (decide (n0 ≥ lo1)) (some (decide (n0 ≤ hi2)))
      (some false)
theorem k86 (N : Nat) (n0 : Int) (lo1 : Int) (hi2 : Int) : callF (E86) lv86 N en86 c86 (resOf Try.f86) 12 [.dv (.int .i64) n0, .dv (.int .i64) lo1, .dv (.int .i64) hi2] [] dec86 = m86 N n0 lo1 hi2 := by kernel_rfl
theorem ok86 (a : Int → Int → Int → Option (Bool)) (h : ∀ n0 lo1 hi2 r, a n0 lo1 hi2 = some r → (∃ N, m86 N n0 lo1 hi2 = some r)) : FnOk Try.prog 86 (F86 a) := by
  intro args Of x hx
  simp only [F86] at hx
  split at hx
  · rename_i n0 lo1 hi2
    obtain ⟨N, hN⟩ := h _ _ _ _ hx
    refine lifted (L := []) (rc := nrc) (fz := nfz) (fn := Try.f86) (by kernel_rfl) (by kernel_rfl) (by kernel_rfl) (by kernel_rfl) rfl ?_ ((k86 N _ _ _).trans hN) ?_
    · intro p hp; cases hp
    · intro l o hd
      simp only [dec86] at hd
      split at hd
      · obtain rfl := Option.some.inj hd; exact ⟨rfl, rfl⟩
      · cases hd
  · cases hx
def E66 (a86 : Int → Int → Int → Option (Bool)) : Env := mkE TI TY [(86, F86 a86)] nrc nfz
noncomputable def c66 : Code := bodyOf Try.f66
def lv66 : Nat → Option Norm := norms []
def en66 : End := ⟨[], ⟨[11], [], [], []⟩⟩
def dec66 (l : List TV) (o : List (Nat × TO)) : Option (Bool) := match l, o with | [.dv (.bool) x0], [] => some (x0) | _, _ => none
def m66 (a86 : Int → Int → Int → Option (Bool)) (N : Nat) (n0 : Int) (lo1 : Int) (hi2 : Int) : Option (Bool) :=
      (a86 n0 lo1 hi2).bind fun r1 =>
      some r1
theorem k66 (a86 : Int → Int → Int → Option (Bool)) (N : Nat) (n0 : Int) (lo1 : Int) (hi2 : Int) : callF (E66 a86) lv66 N en66 c66 (resOf Try.f66) 8 [.dv (.int .i64) n0, .dv (.int .i64) lo1, .dv (.int .i64) hi2] [] dec66 = m66 a86 N n0 lo1 hi2 := by kernel_rfl
theorem ok66 (a86 : Int → Int → Int → Option (Bool)) (h86 : FnOk Try.prog 86 (F86 a86)) (a : Int → Int → Int → Option (Bool)) (h : ∀ n0 lo1 hi2 r, a n0 lo1 hi2 = some r → (∃ N, m66 a86 N n0 lo1 hi2 = some r)) : FnOk Try.prog 66 (F66 a) := by
  intro args Of x hx
  simp only [F66] at hx
  split at hx
  · rename_i n0 lo1 hi2
    obtain ⟨N, hN⟩ := h _ _ _ _ hx
    refine lifted (L := [(86, F86 a86)]) (rc := nrc) (fz := nfz) (fn := Try.f66) (by kernel_rfl) (by kernel_rfl) (by kernel_rfl) (by kernel_rfl) rfl ?_ ((k66 a86 N _ _ _).trans hN) ?_
    · intro p hp; simp only [List.mem_cons, List.not_mem_nil, or_false] at hp; rcases hp with rfl; exact h86
    · intro l o hd
      simp only [dec66] at hd
      split at hd
      · obtain rfl := Option.some.inj hd; exact ⟨rfl, rfl⟩
      · cases hd
  · cases hx
def E25 (a66 : Int → Int → Int → Option (Bool)) : Env := mkE TI TY [(66, F66 a66)] nrc nfz
noncomputable def c25 : Code := bodyOf Try.f25
def nm25_0 : Norm := ⟨[1, 3], [1], [], []⟩
def nm25_1 : Norm := ⟨[1, 3, 4], [1], [], []⟩
def lv25 : Nat → Option Norm := norms [(8, nm25_0), (13, nm25_1)]
def en25 : End := ⟨[], ⟨[52], [], [], []⟩⟩
def dec25 (l : List TV) (o : List (Nat × TO)) : Option (Int) := match l, o with | [.dv (.int .i64) x0], [] => some (x0) | _, _ => none
noncomputable def K25_0 (a66 : Int → Int → Int → Option (Bool)) (N : Nat) : Kont (Int) := kont (E25 a66) lv25 N c25 [1, 1, 1, 1, 0, 1, 0] (fin TI en25 (resOf Try.f25) dec25)
noncomputable def R25_0 (a66 : Int → Int → Int → Option (Bool)) (N : Nat) (m : Nat) : TS → Option (Int) := loopK (den (E25 a66) lv25 N (sub c25 [1, 1, 1, 1, 0, 1, 0, 0])) (TS.norm nm25_0) (K25_0 a66 N) m
noncomputable def K25_1 (a66 : Int → Int → Int → Option (Bool)) (N : Nat) (T25_0 : TS → Option (Int)) : Kont (Int) := kont (E25 a66) lv25 N (sub c25 [1, 1, 1, 1, 0, 1, 0, 0]) [1, 0, 0, 1, 1, 0] (kloop (TS.norm nm25_0) (K25_0 a66 N) T25_0)
noncomputable def R25_1 (a66 : Int → Int → Int → Option (Bool)) (N : Nat) (T25_0 : TS → Option (Int)) (m : Nat) : TS → Option (Int) := loopK (den (E25 a66) lv25 N (sub c25 [1, 1, 1, 1, 0, 1, 0, 0, 1, 0, 0, 1, 1, 0, 0])) (TS.norm nm25_1) (K25_1 a66 N T25_0) m
def Sl25b (p0 : Int × List (List Int) × Unit) (i3_a : Int) (c4_b : Int) : TS := ⟨slots 52 [(1, .ptr 1 0 []), (3, .dv (.int .i64) i3_a), (4, .dv (.int .i64) c4_b)], [(1, .row (.pair (.int .i64) (.pair (.sl (.sl (.int .i64))) (.unit))) ([p0] : List (Int × List (List Int) × Unit)))]⟩
def Sl25a (p0 : Int × List (List Int) × Unit) (i3_a : Int) : TS := ⟨slots 52 [(1, .ptr 1 0 []), (3, .dv (.int .i64) i3_a)], [(1, .row (.pair (.int .i64) (.pair (.sl (.sl (.int .i64))) (.unit))) ([p0] : List (Int × List (List Int) × Unit)))]⟩
def l25b (a66 : Int → Int → Int → Option (Bool)) (N : Nat) (p0 : Int × List (List Int) × Unit) (i3_a : Int) (rec_l25a : Int → Option (Int)) : Nat → Int → Option (Int)
  | 0, _ => none
  | n + 1, c4_b => cond (decide (c4_b < p0.1)) (chk (decide (0 ≤ i3_a ∧ i3_a < (p0.2.1.length : Int))) (chk (decide (0 ≤ c4_b ∧ c4_b < ((p0.2.1.getD i3_a.toNat ([] : List Int)).length : Int))) ((a66 ((p0.2.1.getD i3_a.toNat ([] : List Int)).getD c4_b.toNat (0 : Int)) (0 : Int) (w64 (p0.1 - (1 : Int)))).bind fun r2 =>
      cond (!r2) (some (4 : Int))
      ((l25b a66 N p0 i3_a rec_l25a n (w64 (c4_b + (1 : Int))))))))
      ((rec_l25a (w64 (i3_a + (1 : Int)))))
theorem wl25b (a66 : Int → Int → Int → Option (Bool)) (N : Nat) (p0 : Int × List (List Int) × Unit) (i3_a : Int) (T25_0 : TS → Option (Int)) (m : Nat) (c4_b : Int) : R25_1 a66 N T25_0 (m + 1) (Sl25b p0 i3_a c4_b) = cond (decide (c4_b < p0.1)) (chk (decide (0 ≤ i3_a ∧ i3_a < (p0.2.1.length : Int))) (chk (decide (0 ≤ c4_b ∧ c4_b < ((p0.2.1.getD i3_a.toNat ([] : List Int)).length : Int))) ((a66 ((p0.2.1.getD i3_a.toNat ([] : List Int)).getD c4_b.toNat (0 : Int)) (0 : Int) (w64 (p0.1 - (1 : Int)))).bind fun r2 =>
      cond (!r2) (some (4 : Int))
      ((R25_1 a66 N T25_0 m (Sl25b p0 i3_a (w64 (c4_b + (1 : Int)))))))))
      ((T25_0 (Sl25a p0 (w64 (i3_a + (1 : Int)))))) := by kernel_rfl
theorem ql25b (a66 : Int → Int → Int → Option (Bool)) (N : Nat) (p0 : Int × List (List Int) × Unit) (i3_a : Int) (T25_0 : TS → Option (Int)) : ∀ (m : Nat) (c4_b : Int), R25_1 a66 N T25_0 m (Sl25b p0 i3_a c4_b) = l25b a66 N p0 i3_a (fun y0 => T25_0 (Sl25a p0 y0)) m c4_b
        | 0, _ => rfl
        | m + 1, c4_b => by rw [wl25b]; simp only [l25b, ql25b a66 N p0 i3_a T25_0 m]
def l25a (a66 : Int → Int → Int → Option (Bool)) (N : Nat) (p0 : Int × List (List Int) × Unit) : Nat → Int → Option (Int)
  | 0, _ => none
  | n + 1, i3_a => cond (decide (i3_a < (p0.2.1.length : Int))) (chk (decide (0 ≤ i3_a ∧ i3_a < (p0.2.1.length : Int))) (cond (((p0.2.1.getD i3_a.toNat ([] : List Int)).length : Int) != p0.1) (some (3 : Int))
      ((l25b a66 N p0 i3_a (fun y0 => (l25a a66 N p0 n y0)) N (0 : Int)))))
      (some (0 : Int))
theorem wl25a (a66 : Int → Int → Int → Option (Bool)) (N : Nat) (p0 : Int × List (List Int) × Unit) (m : Nat) (i3_a : Int) : R25_0 a66 N (m + 1) (Sl25a p0 i3_a) = cond (decide (i3_a < (p0.2.1.length : Int))) (chk (decide (0 ≤ i3_a ∧ i3_a < (p0.2.1.length : Int))) (cond (((p0.2.1.getD i3_a.toNat ([] : List Int)).length : Int) != p0.1) (some (3 : Int))
      ((R25_1 a66 N (R25_0 a66 N m) N (Sl25b p0 i3_a (0 : Int))))))
      (some (0 : Int)) := by kernel_rfl
theorem ql25a (a66 : Int → Int → Int → Option (Bool)) (N : Nat) (p0 : Int × List (List Int) × Unit) : ∀ (m : Nat) (i3_a : Int), R25_0 a66 N m (Sl25a p0 i3_a) = l25a a66 N p0 m i3_a
        | 0, _ => rfl
        | m + 1, i3_a => by rw [wl25a]; simp only [l25a, ql25b, ql25a a66 N p0 m]
def m25 (a66 : Int → Int → Int → Option (Bool)) (N : Nat) (p0 : Int × List (List Int) × Unit) : Option (Int) :=
      (a66 p0.1 (2 : Int) (7 : Int)).bind fun r1 =>
      cond (!r1) (some (4 : Int))
      (cond ((p0.2.1.length : Int) == (0 : Int)) (some (1 : Int))
      (cond (decide ((p0.2.1.length : Int) > (6 : Int))) (some (2 : Int))
      ((l25a a66 N p0 N (0 : Int)))))
theorem wm25 (a66 : Int → Int → Int → Option (Bool)) (N : Nat) (p0 : Int × List (List Int) × Unit) : callF (E25 a66) lv25 N en25 c25 (resOf Try.f25) 51 [.dv (.pair (.int .i64) (.pair (.sl (.sl (.int .i64))) (.unit))) p0] [] dec25 = (a66 p0.1 (2 : Int) (7 : Int)).bind fun r1 =>
      cond (!r1) (some (4 : Int))
      (cond ((p0.2.1.length : Int) == (0 : Int)) (some (1 : Int))
      (cond (decide ((p0.2.1.length : Int) > (6 : Int))) (some (2 : Int))
      ((R25_0 a66 N N (Sl25a p0 (0 : Int)))))) := by kernel_rfl
theorem k25 (a66 : Int → Int → Int → Option (Bool)) (N : Nat) (p0 : Int × List (List Int) × Unit) : callF (E25 a66) lv25 N en25 c25 (resOf Try.f25) 51 [.dv (.pair (.int .i64) (.pair (.sl (.sl (.int .i64))) (.unit))) p0] [] dec25 = m25 a66 N p0 := by rw [wm25]; simp only [m25, ql25a]
theorem ok25 (a66 : Int → Int → Int → Option (Bool)) (h66 : FnOk Try.prog 66 (F66 a66)) (a : (Int × List (List Int) × Unit) → Option (Int)) (h : ∀ p0 r, a p0 = some r → (∃ N, m25 a66 N p0 = some r)) : FnOk Try.prog 25 (F25 a) := by
  intro args Of x hx
  simp only [F25] at hx
  split at hx
  · rename_i p0
    obtain ⟨N, hN⟩ := h _ _ hx
    refine lifted (L := [(66, F66 a66)]) (rc := nrc) (fz := nfz) (fn := Try.f25) (by kernel_rfl) (by kernel_rfl) (by kernel_rfl) (by kernel_rfl) rfl ?_ ((k25 a66 N _).trans hN) ?_
    · intro p hp; simp only [List.mem_cons, List.not_mem_nil, or_false] at hp; rcases hp with rfl; exact h66
    · intro l o hd
      simp only [dec25] at hd
      split at hd
      · obtain rfl := Option.some.inj hd; exact ⟨rfl, rfl⟩
      · cases hd
  · cases hx
def E58 (a25 : (Int × List (List Int) × Unit) → Option (Int)) (a66 : Int → Int → Int → Option (Bool)) : Env := mkE TI TY [(25, F25 a25), (66, F66 a66)] nrc nfz
noncomputable def c58 : Code := bodyOf Try.f58
def nm58_0 : Norm := ⟨[1, 3, 7, 8], [3], [], []⟩
def lv58 : Nat → Option Norm := norms [(5, nm58_0)]
def en58 : End := ⟨[], ⟨[40], [], [], []⟩⟩
def dec58 (l : List TV) (o : List (Nat × TO)) : Option (Int) := match l, o with | [.dv (.int .i64) x0], [] => some (x0) | _, _ => none
noncomputable def K58_0 (a25 : (Int × List (List Int) × Unit) → Option (Int)) (a66 : Int → Int → Int → Option (Bool)) (N : Nat) : Kont (Int) := kont (E58 a25 a66) lv58 N c58 [1, 1, 1, 0, 1, 0] (fin TI en58 (resOf Try.f58) dec58)
noncomputable def R58_0 (a25 : (Int × List (List Int) × Unit) → Option (Int)) (a66 : Int → Int → Int → Option (Bool)) (N : Nat) (m : Nat) : TS → Option (Int) := loopK (den (E58 a25 a66) lv58 N (sub c58 [1, 1, 1, 0, 1, 0, 0])) (TS.norm nm58_0) (K58_0 a25 a66 N) m
def Sl58a (p0 : Int × List (List Int) × Unit) (l1 : List Int) (e7_a : Int) (i8_a : Int) : TS := ⟨slots 40 [(1, .dv (.sl (.int .i64)) l1), (3, .ptr 3 0 []), (7, .dv (.int .i64) e7_a), (8, .dv (.int .i64) i8_a)], [(3, .row (.pair (.int .i64) (.pair (.sl (.sl (.int .i64))) (.unit))) ([p0] : List (Int × List (List Int) × Unit)))]⟩
def l58a (a25 : (Int × List (List Int) × Unit) → Option (Int)) (a66 : Int → Int → Int → Option (Bool)) (N : Nat) (p0 : Int × List (List Int) × Unit) (l1 : List Int) : Nat → Int → Int → Option (Int)
  | 0, _, _ => none
  | n + 1, e7_a, i8_a => cond (decide (i8_a < (l1.length : Int))) (cond (e7_a == (0 : Int)) (chk (decide (0 ≤ i8_a ∧ i8_a < (l1.length : Int))) ((a66 (l1.getD i8_a.toNat (0 : Int)) (0 : Int) (w64 ((p0.2.1.length : Int) - (1 : Int)))).bind fun r2 =>
      cond (!r2) ((l58a a25 a66 N p0 l1 n (5 : Int) (w64 (i8_a + (1 : Int)))))
      ((l58a a25 a66 N p0 l1 n e7_a (w64 (i8_a + (1 : Int)))))))
      ((l58a a25 a66 N p0 l1 n e7_a (w64 (i8_a + (1 : Int))))))
      (some e7_a)
theorem wl58a (a25 : (Int × List (List Int) × Unit) → Option (Int)) (a66 : Int → Int → Int → Option (Bool)) (N : Nat) (p0 : Int × List (List Int) × Unit) (l1 : List Int) (m : Nat) (e7_a : Int) (i8_a : Int) : R58_0 a25 a66 N (m + 1) (Sl58a p0 l1 e7_a i8_a) = cond (decide (i8_a < (l1.length : Int))) (cond (e7_a == (0 : Int)) (chk (decide (0 ≤ i8_a ∧ i8_a < (l1.length : Int))) ((a66 (l1.getD i8_a.toNat (0 : Int)) (0 : Int) (w64 ((p0.2.1.length : Int) - (1 : Int)))).bind fun r2 =>
      cond (!r2) ((R58_0 a25 a66 N m (Sl58a p0 l1 (5 : Int) (w64 (i8_a + (1 : Int))))))
      ((R58_0 a25 a66 N m (Sl58a p0 l1 e7_a (w64 (i8_a + (1 : Int))))))))
      ((R58_0 a25 a66 N m (Sl58a p0 l1 e7_a (w64 (i8_a + (1 : Int)))))))
      (some e7_a) := by kernel_rfl
theorem ql58a (a25 : (Int × List (List Int) × Unit) → Option (Int)) (a66 : Int → Int → Int → Option (Bool)) (N : Nat) (p0 : Int × List (List Int) × Unit) (l1 : List Int) : ∀ (m : Nat) (e7_a : Int) (i8_a : Int), R58_0 a25 a66 N m (Sl58a p0 l1 e7_a i8_a) = l58a a25 a66 N p0 l1 m e7_a i8_a
        | 0, _, _ => rfl
        | m + 1, e7_a, i8_a => by rw [wl58a]; simp only [l58a, ql58a a25 a66 N p0 l1 m]
def m58 (a25 : (Int × List (List Int) × Unit) → Option (Int)) (a66 : Int → Int → Int → Option (Bool)) (N : Nat) (p0 : Int × List (List Int) × Unit) (l1 : List Int) (most2 : Int) : Option (Int) :=
      (a25 p0).bind fun r1 =>
      cond (r1 == (0 : Int)) (cond (decide ((l1.length : Int) > most2)) ((l58a a25 a66 N p0 l1 N (2 : Int) (0 : Int)))
      ((l58a a25 a66 N p0 l1 N r1 (0 : Int))))
      ((l58a a25 a66 N p0 l1 N r1 (0 : Int)))
theorem wm58 (a25 : (Int × List (List Int) × Unit) → Option (Int)) (a66 : Int → Int → Int → Option (Bool)) (N : Nat) (p0 : Int × List (List Int) × Unit) (l1 : List Int) (most2 : Int) : callF (E58 a25 a66) lv58 N en58 c58 (resOf Try.f58) 37 [.dv (.pair (.int .i64) (.pair (.sl (.sl (.int .i64))) (.unit))) p0, .dv (.sl (.int .i64)) l1, .dv (.int .i64) most2] [] dec58 = (a25 p0).bind fun r1 =>
      cond (r1 == (0 : Int)) (cond (decide ((l1.length : Int) > most2)) ((R58_0 a25 a66 N N (Sl58a p0 l1 (2 : Int) (0 : Int))))
      ((R58_0 a25 a66 N N (Sl58a p0 l1 r1 (0 : Int)))))
      ((R58_0 a25 a66 N N (Sl58a p0 l1 r1 (0 : Int)))) := by kernel_rfl
theorem k58 (a25 : (Int × List (List Int) × Unit) → Option (Int)) (a66 : Int → Int → Int → Option (Bool)) (N : Nat) (p0 : Int × List (List Int) × Unit) (l1 : List Int) (most2 : Int) : callF (E58 a25 a66) lv58 N en58 c58 (resOf Try.f58) 37 [.dv (.pair (.int .i64) (.pair (.sl (.sl (.int .i64))) (.unit))) p0, .dv (.sl (.int .i64)) l1, .dv (.int .i64) most2] [] dec58 = m58 a25 a66 N p0 l1 most2 := by rw [wm58]; simp only [m58, ql58a]
theorem ok58 (a25 : (Int × List (List Int) × Unit) → Option (Int)) (a66 : Int → Int → Int → Option (Bool)) (h25 : FnOk Try.prog 25 (F25 a25)) (h66 : FnOk Try.prog 66 (F66 a66)) (a : (Int × List (List Int) × Unit) → (List Int) → Int → Option (Int)) (h : ∀ p0 l1 most2 r, a p0 l1 most2 = some r → (∃ N, m58 a25 a66 N p0 l1 most2 = some r)) : FnOk Try.prog 58 (F58 a) := by
  intro args Of x hx
  simp only [F58] at hx
  split at hx
  · rename_i p0 l1 most2
    obtain ⟨N, hN⟩ := h _ _ _ _ hx
    refine lifted (L := [(25, F25 a25), (66, F66 a66)]) (rc := nrc) (fz := nfz) (fn := Try.f58) (by kernel_rfl) (by kernel_rfl) (by kernel_rfl) (by kernel_rfl) rfl ?_ ((k58 a25 a66 N _ _ _).trans hN) ?_
    · intro p hp; simp only [List.mem_cons, List.not_mem_nil, or_false] at hp; rcases hp with rfl | rfl
      · exact h25
      · exact h66
    · intro l o hd
      simp only [dec58] at hd
      split at hd
      · obtain rfl := Option.some.inj hd; exact ⟨rfl, rfl⟩
      · cases hd
  · cases hx
def E59 : Env := mkE TI TY [] nrc nfz
noncomputable def c59 : Code := bodyOf Try.f59
def nm59_0 : Norm := ⟨[0, 4], [], [(.slot 3, 1003, .int .i64)], []⟩
def lv59 : Nat → Option Norm := norms [(3, nm59_0)]
def en59 : End := ⟨[(19, .sl (.int .i64))], ⟨[19], [], [], []⟩⟩
def dec59 (l : List TV) (o : List (Nat × TO)) : Option (List Int) := match l, o with | [.dv (.sl (.int .i64)) x0], [] => some (x0) | _, _ => none
noncomputable def K59_0 (N : Nat) : Kont (List Int) := kont (E59) lv59 N c59 [1, 1, 0, 1, 0] (fin TI en59 (resOf Try.f59) dec59)
noncomputable def R59_0 (N : Nat) (m : Nat) : TS → Option (List Int) := loopK (den (E59) lv59 N (sub c59 [1, 1, 0, 1, 0, 0])) (TS.norm nm59_0) (K59_0 N) m
def Sl59a (set0 : Int) (c4_a : Int) (out3_a : List Int) : TS := ⟨slots 19 [(0, .dv (.int .i64) set0), (3, .row 1003), (4, .dv (.int .i64) c4_a)], [(1003, .row (.int .i64) out3_a)]⟩
def l59a (N : Nat) (set0 : Int) : Nat → Int → (List Int) → Option (List Int)
  | 0, _, _ => none
  | n + 1, c4_a, out3_a => cond (decide (c4_a < (7 : Int))) (chk (decide (0 ≤ c4_a)) (cond ((bAnd .i64 (Int.fdiv set0 (2 ^ min (Int.toNat c4_a) 64)) (1 : Int)) == (1 : Int)) (chk (small (out3_a.length + 1) 8) ((l59a N set0 n (w64 (c4_a + (1 : Int))) (out3_a ++ ([c4_a] : List Int)))))
      ((l59a N set0 n (w64 (c4_a + (1 : Int))) out3_a))))
      (some out3_a)
theorem wl59a (N : Nat) (set0 : Int) (m : Nat) (c4_a : Int) (out3_a : List Int) : R59_0 N (m + 1) (Sl59a set0 c4_a out3_a) = cond (decide (c4_a < (7 : Int))) (chk (decide (0 ≤ c4_a)) (cond ((bAnd .i64 (Int.fdiv set0 (2 ^ min (Int.toNat c4_a) 64)) (1 : Int)) == (1 : Int)) (chk (small (out3_a.length + 1) 8) ((R59_0 N m (Sl59a set0 (w64 (c4_a + (1 : Int))) (out3_a ++ ([c4_a] : List Int))))))
      ((R59_0 N m (Sl59a set0 (w64 (c4_a + (1 : Int))) out3_a)))))
      (some out3_a) := by kernel_rfl
theorem ql59a (N : Nat) (set0 : Int) : ∀ (m : Nat) (c4_a : Int) (out3_a : List Int), R59_0 N m (Sl59a set0 c4_a out3_a) = l59a N set0 m c4_a out3_a
        | 0, _, _ => rfl
        | m + 1, c4_a, out3_a => by rw [wl59a]; simp only [l59a, ql59a N set0 m]
def m59 (N : Nat) (set0 : Int) : Option (List Int) :=
      (l59a N set0 N (0 : Int) ([] : List Int))
theorem wm59 (N : Nat) (set0 : Int) : callF (E59) lv59 N en59 c59 (resOf Try.f59) 18 [.dv (.int .i64) set0] [] dec59 = (R59_0 N N (Sl59a set0 (0 : Int) ([] : List Int))) := by kernel_rfl
theorem k59 (N : Nat) (set0 : Int) : callF (E59) lv59 N en59 c59 (resOf Try.f59) 18 [.dv (.int .i64) set0] [] dec59 = m59 N set0 := by rw [wm59]; simp only [m59, ql59a]
theorem ok59 (a : Int → Option (List Int)) (h : ∀ set0 r, a set0 = some r → (∃ N, m59 N set0 = some r)) : FnOk Try.prog 59 (F59 a) := by
  intro args Of x hx
  simp only [F59] at hx
  split at hx
  · rename_i set0
    obtain ⟨N, hN⟩ := h _ _ hx
    refine lifted (L := []) (rc := nrc) (fz := nfz) (fn := Try.f59) (by kernel_rfl) (by kernel_rfl) (by kernel_rfl) (by kernel_rfl) rfl ?_ ((k59 N _).trans hN) ?_
    · intro p hp; cases hp
    · intro l o hd
      simp only [dec59] at hd
      split at hd
      · obtain rfl := Option.some.inj hd; exact ⟨rfl, rfl⟩
      · cases hd
  · cases hx
def E73 : Env := mkE TI TY [] nrc nfz
noncomputable def c73 : Code := bodyOf Try.f73
def nm73_0 : Norm := ⟨[1, 2, 3, 7, 8], [3], [], []⟩
def lv73 : Nat → Option Norm := norms [(3, nm73_0)]
def en73 : End := ⟨[], ⟨[33], [], [], []⟩⟩
def dec73 (l : List TV) (o : List (Nat × TO)) : Option (Int) := match l, o with | [.dv (.int .i64) x0], [] => some (x0) | _, _ => none
noncomputable def K73_0 (N : Nat) : Kont (Int) := kont (E73) lv73 N c73 [1, 1, 0, 1, 0] (fin TI en73 (resOf Try.f73) dec73)
noncomputable def R73_0 (N : Nat) (m : Nat) : TS → Option (Int) := loopK (den (E73) lv73 N (sub c73 [1, 1, 0, 1, 0, 0])) (TS.norm nm73_0) (K73_0 N) m
def Sl73a (p0 : Int × List (List Int) × Unit) (set1 : Int) (ink2 : Int) (out7_a : Int) (c8_a : Int) : TS := ⟨slots 33 [(1, .dv (.int .i64) set1), (2, .dv (.int .i64) ink2), (3, .ptr 3 0 []), (7, .dv (.int .i64) out7_a), (8, .dv (.int .i64) c8_a)], [(3, .row (.pair (.int .i64) (.pair (.sl (.sl (.int .i64))) (.unit))) ([p0] : List (Int × List (List Int) × Unit)))]⟩
def l73a (N : Nat) (p0 : Int × List (List Int) × Unit) (set1 : Int) (ink2 : Int) : Nat → Int → Int → Option (Int)
  | 0, _, _ => none
  | n + 1, out7_a, c8_a => cond (decide (c8_a < p0.1)) (chk (decide (0 ≤ c8_a)) (cond ((bAnd .i64 (Int.fdiv set1 (2 ^ min (Int.toNat c8_a) 64)) (1 : Int)) == (1 : Int)) (chk (decide (0 ≤ ink2 ∧ ink2 < (p0.2.1.length : Int))) (chk (decide (0 ≤ c8_a ∧ c8_a < ((p0.2.1.getD ink2.toNat ([] : List Int)).length : Int))) (chk (decide (0 ≤ (p0.2.1.getD ink2.toNat ([] : List Int)).getD c8_a.toNat (0 : Int))) ((l73a N p0 set1 ink2 n (bOr .i64 out7_a (IntKind.wrap .i64 ((1 : Int) * 2 ^ min (Int.toNat ((p0.2.1.getD ink2.toNat ([] : List Int)).getD c8_a.toNat (0 : Int))) 64))) (w64 (c8_a + (1 : Int))))))))
      ((l73a N p0 set1 ink2 n out7_a (w64 (c8_a + (1 : Int)))))))
      (some out7_a)
theorem wl73a (N : Nat) (p0 : Int × List (List Int) × Unit) (set1 : Int) (ink2 : Int) (m : Nat) (out7_a : Int) (c8_a : Int) : R73_0 N (m + 1) (Sl73a p0 set1 ink2 out7_a c8_a) = cond (decide (c8_a < p0.1)) (chk (decide (0 ≤ c8_a)) (cond ((bAnd .i64 (Int.fdiv set1 (2 ^ min (Int.toNat c8_a) 64)) (1 : Int)) == (1 : Int)) (chk (decide (0 ≤ ink2 ∧ ink2 < (p0.2.1.length : Int))) (chk (decide (0 ≤ c8_a ∧ c8_a < ((p0.2.1.getD ink2.toNat ([] : List Int)).length : Int))) (chk (decide (0 ≤ (p0.2.1.getD ink2.toNat ([] : List Int)).getD c8_a.toNat (0 : Int))) ((R73_0 N m (Sl73a p0 set1 ink2 (bOr .i64 out7_a (IntKind.wrap .i64 ((1 : Int) * 2 ^ min (Int.toNat ((p0.2.1.getD ink2.toNat ([] : List Int)).getD c8_a.toNat (0 : Int))) 64))) (w64 (c8_a + (1 : Int)))))))))
      ((R73_0 N m (Sl73a p0 set1 ink2 out7_a (w64 (c8_a + (1 : Int))))))))
      (some out7_a) := by kernel_rfl
theorem ql73a (N : Nat) (p0 : Int × List (List Int) × Unit) (set1 : Int) (ink2 : Int) : ∀ (m : Nat) (out7_a : Int) (c8_a : Int), R73_0 N m (Sl73a p0 set1 ink2 out7_a c8_a) = l73a N p0 set1 ink2 m out7_a c8_a
        | 0, _, _ => rfl
        | m + 1, out7_a, c8_a => by rw [wl73a]; simp only [l73a, ql73a N p0 set1 ink2 m]
def m73 (N : Nat) (p0 : Int × List (List Int) × Unit) (set1 : Int) (ink2 : Int) : Option (Int) :=
      (l73a N p0 set1 ink2 N set1 (0 : Int))
theorem wm73 (N : Nat) (p0 : Int × List (List Int) × Unit) (set1 : Int) (ink2 : Int) : callF (E73) lv73 N en73 c73 (resOf Try.f73) 30 [.dv (.pair (.int .i64) (.pair (.sl (.sl (.int .i64))) (.unit))) p0, .dv (.int .i64) set1, .dv (.int .i64) ink2] [] dec73 = (R73_0 N N (Sl73a p0 set1 ink2 set1 (0 : Int))) := by kernel_rfl
theorem k73 (N : Nat) (p0 : Int × List (List Int) × Unit) (set1 : Int) (ink2 : Int) : callF (E73) lv73 N en73 c73 (resOf Try.f73) 30 [.dv (.pair (.int .i64) (.pair (.sl (.sl (.int .i64))) (.unit))) p0, .dv (.int .i64) set1, .dv (.int .i64) ink2] [] dec73 = m73 N p0 set1 ink2 := by rw [wm73]; simp only [m73, ql73a]
theorem ok73 (a : (Int × List (List Int) × Unit) → Int → Int → Option (Int)) (h : ∀ p0 set1 ink2 r, a p0 set1 ink2 = some r → (∃ N, m73 N p0 set1 ink2 = some r)) : FnOk Try.prog 73 (F73 a) := by
  intro args Of x hx
  simp only [F73] at hx
  split at hx
  · rename_i p0 set1 ink2
    obtain ⟨N, hN⟩ := h _ _ _ _ hx
    refine lifted (L := []) (rc := nrc) (fz := nfz) (fn := Try.f73) (by kernel_rfl) (by kernel_rfl) (by kernel_rfl) (by kernel_rfl) rfl ?_ ((k73 N _ _ _).trans hN) ?_
    · intro p hp; cases hp
    · intro l o hd
      simp only [dec73] at hd
      split at hd
      · obtain rfl := Option.some.inj hd; exact ⟨rfl, rfl⟩
      · cases hd
  · cases hx
def E60 (a73 : (Int × List (List Int) × Unit) → Int → Int → Option (Int)) : Env := mkE TI TY [(73, F73 a73)] nrc nfz
noncomputable def c60 : Code := bodyOf Try.f60
def nm60_0 : Norm := ⟨[1, 2, 5, 6], [2], [], []⟩
def lv60 : Nat → Option Norm := norms [(3, nm60_0)]
def en60 : End := ⟨[], ⟨[21], [], [], []⟩⟩
def dec60 (l : List TV) (o : List (Nat × TO)) : Option (Int) := match l, o with | [.dv (.int .i64) x0], [] => some (x0) | _, _ => none
noncomputable def K60_0 (a73 : (Int × List (List Int) × Unit) → Int → Int → Option (Int)) (N : Nat) : Kont (Int) := kont (E60 a73) lv60 N c60 [1, 1, 0, 1, 0] (fin TI en60 (resOf Try.f60) dec60)
noncomputable def R60_0 (a73 : (Int × List (List Int) × Unit) → Int → Int → Option (Int)) (N : Nat) (m : Nat) : TS → Option (Int) := loopK (den (E60 a73) lv60 N (sub c60 [1, 1, 0, 1, 0, 0])) (TS.norm nm60_0) (K60_0 a73 N) m
def Sl60a (p0 : Int × List (List Int) × Unit) (l1 : List Int) (set5_a : Int) (i6_a : Int) : TS := ⟨slots 21 [(1, .dv (.sl (.int .i64)) l1), (2, .ptr 2 0 []), (5, .dv (.int .i64) set5_a), (6, .dv (.int .i64) i6_a)], [(2, .row (.pair (.int .i64) (.pair (.sl (.sl (.int .i64))) (.unit))) ([p0] : List (Int × List (List Int) × Unit)))]⟩
def l60a (a73 : (Int × List (List Int) × Unit) → Int → Int → Option (Int)) (N : Nat) (p0 : Int × List (List Int) × Unit) (l1 : List Int) : Nat → Int → Int → Option (Int)
  | 0, _, _ => none
  | n + 1, set5_a, i6_a => cond (decide (i6_a < (l1.length : Int))) (chk (decide (0 ≤ i6_a ∧ i6_a < (l1.length : Int))) ((a73 p0 set5_a (l1.getD i6_a.toNat (0 : Int))).bind fun r1 =>
      (l60a a73 N p0 l1 n r1 (w64 (i6_a + (1 : Int))))))
      (some set5_a)
theorem wl60a (a73 : (Int × List (List Int) × Unit) → Int → Int → Option (Int)) (N : Nat) (p0 : Int × List (List Int) × Unit) (l1 : List Int) (m : Nat) (set5_a : Int) (i6_a : Int) : R60_0 a73 N (m + 1) (Sl60a p0 l1 set5_a i6_a) = cond (decide (i6_a < (l1.length : Int))) (chk (decide (0 ≤ i6_a ∧ i6_a < (l1.length : Int))) ((a73 p0 set5_a (l1.getD i6_a.toNat (0 : Int))).bind fun r1 =>
      (R60_0 a73 N m (Sl60a p0 l1 r1 (w64 (i6_a + (1 : Int)))))))
      (some set5_a) := by kernel_rfl
theorem ql60a (a73 : (Int × List (List Int) × Unit) → Int → Int → Option (Int)) (N : Nat) (p0 : Int × List (List Int) × Unit) (l1 : List Int) : ∀ (m : Nat) (set5_a : Int) (i6_a : Int), R60_0 a73 N m (Sl60a p0 l1 set5_a i6_a) = l60a a73 N p0 l1 m set5_a i6_a
        | 0, _, _ => rfl
        | m + 1, set5_a, i6_a => by rw [wl60a]; simp only [l60a, ql60a a73 N p0 l1 m]
def m60 (a73 : (Int × List (List Int) × Unit) → Int → Int → Option (Int)) (N : Nat) (p0 : Int × List (List Int) × Unit) (l1 : List Int) : Option (Int) :=
      (l60a a73 N p0 l1 N (1 : Int) (0 : Int))
theorem wm60 (a73 : (Int × List (List Int) × Unit) → Int → Int → Option (Int)) (N : Nat) (p0 : Int × List (List Int) × Unit) (l1 : List Int) : callF (E60 a73) lv60 N en60 c60 (resOf Try.f60) 19 [.dv (.pair (.int .i64) (.pair (.sl (.sl (.int .i64))) (.unit))) p0, .dv (.sl (.int .i64)) l1] [] dec60 = (R60_0 a73 N N (Sl60a p0 l1 (1 : Int) (0 : Int))) := by kernel_rfl
theorem k60 (a73 : (Int × List (List Int) × Unit) → Int → Int → Option (Int)) (N : Nat) (p0 : Int × List (List Int) × Unit) (l1 : List Int) : callF (E60 a73) lv60 N en60 c60 (resOf Try.f60) 19 [.dv (.pair (.int .i64) (.pair (.sl (.sl (.int .i64))) (.unit))) p0, .dv (.sl (.int .i64)) l1] [] dec60 = m60 a73 N p0 l1 := by rw [wm60]; simp only [m60, ql60a]
theorem ok60 (a73 : (Int × List (List Int) × Unit) → Int → Int → Option (Int)) (h73 : FnOk Try.prog 73 (F73 a73)) (a : (Int × List (List Int) × Unit) → (List Int) → Option (Int)) (h : ∀ p0 l1 r, a p0 l1 = some r → (∃ N, m60 a73 N p0 l1 = some r)) : FnOk Try.prog 60 (F60 a) := by
  intro args Of x hx
  simp only [F60] at hx
  split at hx
  · rename_i p0 l1
    obtain ⟨N, hN⟩ := h _ _ _ hx
    refine lifted (L := [(73, F73 a73)]) (rc := nrc) (fz := nfz) (fn := Try.f60) (by kernel_rfl) (by kernel_rfl) (by kernel_rfl) (by kernel_rfl) rfl ?_ ((k60 a73 N _ _).trans hN) ?_
    · intro p hp; simp only [List.mem_cons, List.not_mem_nil, or_false] at hp; rcases hp with rfl; exact h73
    · intro l o hd
      simp only [dec60] at hd
      split at hd
      · obtain rfl := Option.some.inj hd; exact ⟨rfl, rfl⟩
      · cases hd
  · cases hx
def E18 (a58 : (Int × List (List Int) × Unit) → (List Int) → Int → Option (Int)) (a59 : Int → Option (List Int)) (a60 : (Int × List (List Int) × Unit) → (List Int) → Option (Int)) : Env := mkE TI TY [(58, F58 a58), (59, F59 a59), (60, F60 a60)] nrc nfz
noncomputable def c18 : Code := bodyOf Try.f18
def lv18 : Nat → Option Norm := norms []
def en18 : End := ⟨[(17, .sl (.int .i64))], ⟨[17, 18], [], [], []⟩⟩
def dec18 (l : List TV) (o : List (Nat × TO)) : Option (List Int × Int) := match l, o with | [.dv (.sl (.int .i64)) x0, .dv (.int .i64) x1], [] => some (x0, x1) | _, _ => none
def m18 (a58 : (Int × List (List Int) × Unit) → (List Int) → Int → Option (Int)) (a59 : Int → Option (List Int)) (a60 : (Int × List (List Int) × Unit) → (List Int) → Option (Int)) (N : Nat) (p0 : Int × List (List Int) × Unit) (l1 : List Int) : Option (List Int × Int) :=
      (a58 p0 l1 (12 : Int)).bind fun r1 =>
      cond (r1 != (0 : Int)) (some (([] : List Int), r1))
      ((a60 p0 l1).bind fun r2 =>
      (a59 r2).bind fun r3 =>
      some (r3, (0 : Int)))
theorem k18 (a58 : (Int × List (List Int) × Unit) → (List Int) → Int → Option (Int)) (a59 : Int → Option (List Int)) (a60 : (Int × List (List Int) × Unit) → (List Int) → Option (Int)) (N : Nat) (p0 : Int × List (List Int) × Unit) (l1 : List Int) : callF (E18 a58 a59 a60) lv18 N en18 c18 (resOf Try.f18) 15 [.dv (.pair (.int .i64) (.pair (.sl (.sl (.int .i64))) (.unit))) p0, .dv (.sl (.int .i64)) l1] [] dec18 = m18 a58 a59 a60 N p0 l1 := by kernel_rfl
theorem ok18 (a58 : (Int × List (List Int) × Unit) → (List Int) → Int → Option (Int)) (a59 : Int → Option (List Int)) (a60 : (Int × List (List Int) × Unit) → (List Int) → Option (Int)) (h58 : FnOk Try.prog 58 (F58 a58)) (h59 : FnOk Try.prog 59 (F59 a59)) (h60 : FnOk Try.prog 60 (F60 a60)) (a : (Int × List (List Int) × Unit) → (List Int) → Option (List Int × Int)) (h : ∀ p0 l1 r, a p0 l1 = some r → (∃ N, m18 a58 a59 a60 N p0 l1 = some r)) : FnOk Try.prog 18 (F18 a) := by
  intro args Of x hx
  simp only [F18] at hx
  split at hx
  · rename_i p0 l1
    obtain ⟨N, hN⟩ := h _ _ _ hx
    refine lifted (L := [(58, F58 a58), (59, F59 a59), (60, F60 a60)]) (rc := nrc) (fz := nfz) (fn := Try.f18) (by kernel_rfl) (by kernel_rfl) (by kernel_rfl) (by kernel_rfl) rfl ?_ ((k18 a58 a59 a60 N _ _).trans hN) ?_
    · intro p hp; simp only [List.mem_cons, List.not_mem_nil, or_false] at hp; rcases hp with rfl | rfl | rfl
      · exact h58
      · exact h59
      · exact h60
    · intro l o hd
      simp only [dec18] at hd
      split at hd
      · obtain rfl := Option.some.inj hd; exact ⟨rfl, rfl⟩
      · cases hd
  · cases hx
def E20 (a58 : (Int × List (List Int) × Unit) → (List Int) → Int → Option (Int)) : Env := mkE TI TY [(58, F58 a58)] nrc nfz
noncomputable def c20 : Code := bodyOf Try.f20
def nm20_0 : Norm := ⟨[1, 2, 3, 9, 10], [3], [], []⟩
def lv20 : Nat → Option Norm := norms [(8, nm20_0)]
def en20 : End := ⟨[], ⟨[48, 49], [], [], []⟩⟩
def dec20 (l : List TV) (o : List (Nat × TO)) : Option (Int × Int) := match l, o with | [.dv (.int .i64) x0, .dv (.int .i64) x1], [] => some (x0, x1) | _, _ => none
noncomputable def K20_0 (a58 : (Int × List (List Int) × Unit) → (List Int) → Int → Option (Int)) (N : Nat) : Kont (Int × Int) := kont (E20 a58) lv20 N c20 [1, 1, 1, 1, 1, 0, 1, 0] (fin TI en20 (resOf Try.f20) dec20)
noncomputable def R20_0 (a58 : (Int × List (List Int) × Unit) → (List Int) → Int → Option (Int)) (N : Nat) (m : Nat) : TS → Option (Int × Int) := loopK (den (E20 a58) lv20 N (sub c20 [1, 1, 1, 1, 1, 0, 1, 0, 0])) (TS.norm nm20_0) (K20_0 a58 N) m
def Sl20a (p0 : Int × List (List Int) × Unit) (l1 : List Int) (choice2 : List Bool) (c9_a : Int) (i10_a : Int) : TS := ⟨slots 48 [(1, .dv (.sl (.int .i64)) l1), (2, .dv (.sl (.bool)) choice2), (3, .ptr 3 0 []), (9, .dv (.int .i64) c9_a), (10, .dv (.int .i64) i10_a)], [(3, .row (.pair (.int .i64) (.pair (.sl (.sl (.int .i64))) (.unit))) ([p0] : List (Int × List (List Int) × Unit)))]⟩
def l20a (a58 : (Int × List (List Int) × Unit) → (List Int) → Int → Option (Int)) (N : Nat) (p0 : Int × List (List Int) × Unit) (l1 : List Int) (choice2 : List Bool) : Nat → Int → Int → Option (Int × Int)
  | 0, _, _ => none
  | n + 1, c9_a, i10_a => cond (decide (i10_a < (l1.length : Int))) (chk (decide (0 ≤ i10_a ∧ i10_a < (choice2.length : Int))) (cond (choice2.getD i10_a.toNat false) (chk (decide (0 ≤ i10_a ∧ i10_a < (l1.length : Int))) (chk (decide (0 ≤ l1.getD i10_a.toNat (0 : Int) ∧ l1.getD i10_a.toNat (0 : Int) < (p0.2.1.length : Int))) (chk (decide (0 ≤ c9_a ∧ c9_a < ((p0.2.1.getD ((l1.getD i10_a.toNat (0 : Int)).toNat) ([] : List Int)).length : Int))) ((l20a a58 N p0 l1 choice2 n ((p0.2.1.getD ((l1.getD i10_a.toNat (0 : Int)).toNat) ([] : List Int)).getD c9_a.toNat (0 : Int)) (w64 (i10_a + (1 : Int))))))))
      ((l20a a58 N p0 l1 choice2 n c9_a (w64 (i10_a + (1 : Int)))))))
      (some (c9_a, (0 : Int)))
theorem wl20a (a58 : (Int × List (List Int) × Unit) → (List Int) → Int → Option (Int)) (N : Nat) (p0 : Int × List (List Int) × Unit) (l1 : List Int) (choice2 : List Bool) (m : Nat) (c9_a : Int) (i10_a : Int) : R20_0 a58 N (m + 1) (Sl20a p0 l1 choice2 c9_a i10_a) = cond (decide (i10_a < (l1.length : Int))) (chk (decide (0 ≤ i10_a ∧ i10_a < (choice2.length : Int))) (cond (choice2.getD i10_a.toNat false) (chk (decide (0 ≤ i10_a ∧ i10_a < (l1.length : Int))) (chk (decide (0 ≤ l1.getD i10_a.toNat (0 : Int) ∧ l1.getD i10_a.toNat (0 : Int) < (p0.2.1.length : Int))) (chk (decide (0 ≤ c9_a ∧ c9_a < ((p0.2.1.getD ((l1.getD i10_a.toNat (0 : Int)).toNat) ([] : List Int)).length : Int))) ((R20_0 a58 N m (Sl20a p0 l1 choice2 ((p0.2.1.getD ((l1.getD i10_a.toNat (0 : Int)).toNat) ([] : List Int)).getD c9_a.toNat (0 : Int)) (w64 (i10_a + (1 : Int)))))))))
      ((R20_0 a58 N m (Sl20a p0 l1 choice2 c9_a (w64 (i10_a + (1 : Int))))))))
      (some (c9_a, (0 : Int))) := by kernel_rfl
theorem ql20a (a58 : (Int × List (List Int) × Unit) → (List Int) → Int → Option (Int)) (N : Nat) (p0 : Int × List (List Int) × Unit) (l1 : List Int) (choice2 : List Bool) : ∀ (m : Nat) (c9_a : Int) (i10_a : Int), R20_0 a58 N m (Sl20a p0 l1 choice2 c9_a i10_a) = l20a a58 N p0 l1 choice2 m c9_a i10_a
        | 0, _, _ => rfl
        | m + 1, c9_a, i10_a => by rw [wl20a]; simp only [l20a, ql20a a58 N p0 l1 choice2 m]
def m20 (a58 : (Int × List (List Int) × Unit) → (List Int) → Int → Option (Int)) (N : Nat) (p0 : Int × List (List Int) × Unit) (l1 : List Int) (choice2 : List Bool) : Option (Int × Int) :=
      (a58 p0 l1 (12 : Int)).bind fun r1 =>
      cond (r1 == (0 : Int)) (cond ((choice2.length : Int) != (l1.length : Int)) (some ((0 : Int), (3 : Int)))
      (cond (r1 != (0 : Int)) (some ((0 : Int), r1))
      ((l20a a58 N p0 l1 choice2 N (0 : Int) (0 : Int)))))
      (cond (r1 != (0 : Int)) (some ((0 : Int), r1))
      ((l20a a58 N p0 l1 choice2 N (0 : Int) (0 : Int))))
theorem wm20 (a58 : (Int × List (List Int) × Unit) → (List Int) → Int → Option (Int)) (N : Nat) (p0 : Int × List (List Int) × Unit) (l1 : List Int) (choice2 : List Bool) : callF (E20 a58) lv20 N en20 c20 (resOf Try.f20) 45 [.dv (.pair (.int .i64) (.pair (.sl (.sl (.int .i64))) (.unit))) p0, .dv (.sl (.int .i64)) l1, .dv (.sl (.bool)) choice2] [] dec20 = (a58 p0 l1 (12 : Int)).bind fun r1 =>
      cond (r1 == (0 : Int)) (cond ((choice2.length : Int) != (l1.length : Int)) (some ((0 : Int), (3 : Int)))
      (cond (r1 != (0 : Int)) (some ((0 : Int), r1))
      ((R20_0 a58 N N (Sl20a p0 l1 choice2 (0 : Int) (0 : Int))))))
      (cond (r1 != (0 : Int)) (some ((0 : Int), r1))
      ((R20_0 a58 N N (Sl20a p0 l1 choice2 (0 : Int) (0 : Int))))) := by kernel_rfl
theorem k20 (a58 : (Int × List (List Int) × Unit) → (List Int) → Int → Option (Int)) (N : Nat) (p0 : Int × List (List Int) × Unit) (l1 : List Int) (choice2 : List Bool) : callF (E20 a58) lv20 N en20 c20 (resOf Try.f20) 45 [.dv (.pair (.int .i64) (.pair (.sl (.sl (.int .i64))) (.unit))) p0, .dv (.sl (.int .i64)) l1, .dv (.sl (.bool)) choice2] [] dec20 = m20 a58 N p0 l1 choice2 := by rw [wm20]; simp only [m20, ql20a]
theorem ok20 (a58 : (Int × List (List Int) × Unit) → (List Int) → Int → Option (Int)) (h58 : FnOk Try.prog 58 (F58 a58)) (a : (Int × List (List Int) × Unit) → (List Int) → (List Bool) → Option (Int × Int)) (h : ∀ p0 l1 choice2 r, a p0 l1 choice2 = some r → (∃ N, m20 a58 N p0 l1 choice2 = some r)) : FnOk Try.prog 20 (F20 a) := by
  intro args Of x hx
  simp only [F20] at hx
  split at hx
  · rename_i p0 l1 choice2
    obtain ⟨N, hN⟩ := h _ _ _ _ hx
    refine lifted (L := [(58, F58 a58)]) (rc := nrc) (fz := nfz) (fn := Try.f20) (by kernel_rfl) (by kernel_rfl) (by kernel_rfl) (by kernel_rfl) rfl ?_ ((k20 a58 N _ _ _).trans hN) ?_
    · intro p hp; simp only [List.mem_cons, List.not_mem_nil, or_false] at hp; rcases hp with rfl; exact h58
    · intro l o hd
      simp only [dec20] at hd
      split at hd
      · obtain rfl := Option.some.inj hd; exact ⟨rfl, rfl⟩
      · cases hd
  · cases hx
def E22 (a58 : (Int × List (List Int) × Unit) → (List Int) → Int → Option (Int)) (a60 : (Int × List (List Int) × Unit) → (List Int) → Option (Int)) : Env := mkE TI TY [(58, F58 a58), (60, F60 a60)] nrc nfz
noncomputable def c22 : Code := bodyOf Try.f22
def nm22_0 : Norm := ⟨[1, 2, 8], [2], [(.slot 7, 1007, .int .i64)], []⟩
def lv22 : Nat → Option Norm := norms [(6, nm22_0)]
def en22 : End := ⟨[(42, .sl (.int .i64))], ⟨[42, 43], [], [], []⟩⟩
def dec22 (l : List TV) (o : List (Nat × TO)) : Option (List Int × Int) := match l, o with | [.dv (.sl (.int .i64)) x0, .dv (.int .i64) x1], [] => some (x0, x1) | _, _ => none
noncomputable def K22_0 (a58 : (Int × List (List Int) × Unit) → (List Int) → Int → Option (Int)) (a60 : (Int × List (List Int) × Unit) → (List Int) → Option (Int)) (N : Nat) : Kont (List Int × Int) := kont (E22 a58 a60) lv22 N c22 [1, 1, 1, 1, 0, 1, 0] (fin TI en22 (resOf Try.f22) dec22)
noncomputable def R22_0 (a58 : (Int × List (List Int) × Unit) → (List Int) → Int → Option (Int)) (a60 : (Int × List (List Int) × Unit) → (List Int) → Option (Int)) (N : Nat) (m : Nat) : TS → Option (List Int × Int) := loopK (den (E22 a58 a60) lv22 N (sub c22 [1, 1, 1, 1, 0, 1, 0, 0])) (TS.norm nm22_0) (K22_0 a58 a60 N) m
def Sl22a (p0 : Int × List (List Int) × Unit) (l1 : List Int) (i8_a : Int) (out7_a : List Int) : TS := ⟨slots 42 [(1, .dv (.sl (.int .i64)) l1), (2, .ptr 2 0 []), (7, .row 1007), (8, .dv (.int .i64) i8_a)], [(1007, .row (.int .i64) out7_a), (2, .row (.pair (.int .i64) (.pair (.sl (.sl (.int .i64))) (.unit))) ([p0] : List (Int × List (List Int) × Unit)))]⟩
def l22a (a58 : (Int × List (List Int) × Unit) → (List Int) → Int → Option (Int)) (a60 : (Int × List (List Int) × Unit) → (List Int) → Option (Int)) (N : Nat) (p0 : Int × List (List Int) × Unit) (l1 : List Int) : Nat → Int → (List Int) → Option (List Int × Int)
  | 0, _, _ => none
  | n + 1, i8_a, out7_a => cond (decide (i8_a < (l1.length : Int))) (chk (decide (0 ≤ i8_a ∧ i8_a ≤ (l1.length : Int))) (chk (small (0 + (l1.take i8_a.toNat).length) 8) (chk (decide (0 ≤ w64 (i8_a + (1 : Int)) ∧ w64 (i8_a + (1 : Int)) ≤ (l1.length : Int))) (chk (small ((([] : List Int) ++ (l1.take i8_a.toNat)).length + (l1.drop ((w64 (i8_a + (1 : Int))).toNat)).length) 8) ((a60 p0 ((([] : List Int) ++ (l1.take i8_a.toNat)) ++ (l1.drop ((w64 (i8_a + (1 : Int))).toNat)))).bind fun r2 =>
      (a60 p0 l1).bind fun r3 =>
      cond (r2 == r3) (chk (small (out7_a.length + 1) 8) ((l22a a58 a60 N p0 l1 n (w64 (i8_a + (1 : Int))) (out7_a ++ ([i8_a] : List Int)))))
      ((l22a a58 a60 N p0 l1 n (w64 (i8_a + (1 : Int))) out7_a)))))))
      (some (out7_a, (0 : Int)))
theorem wl22a (a58 : (Int × List (List Int) × Unit) → (List Int) → Int → Option (Int)) (a60 : (Int × List (List Int) × Unit) → (List Int) → Option (Int)) (N : Nat) (p0 : Int × List (List Int) × Unit) (l1 : List Int) (m : Nat) (i8_a : Int) (out7_a : List Int) : R22_0 a58 a60 N (m + 1) (Sl22a p0 l1 i8_a out7_a) = cond (decide (i8_a < (l1.length : Int))) (chk (decide (0 ≤ i8_a ∧ i8_a ≤ (l1.length : Int))) (chk (small (0 + (l1.take i8_a.toNat).length) 8) (chk (decide (0 ≤ w64 (i8_a + (1 : Int)) ∧ w64 (i8_a + (1 : Int)) ≤ (l1.length : Int))) (chk (small ((([] : List Int) ++ (l1.take i8_a.toNat)).length + (l1.drop ((w64 (i8_a + (1 : Int))).toNat)).length) 8) ((a60 p0 ((([] : List Int) ++ (l1.take i8_a.toNat)) ++ (l1.drop ((w64 (i8_a + (1 : Int))).toNat)))).bind fun r2 =>
      (a60 p0 l1).bind fun r3 =>
      cond (r2 == r3) (chk (small (out7_a.length + 1) 8) ((R22_0 a58 a60 N m (Sl22a p0 l1 (w64 (i8_a + (1 : Int))) (out7_a ++ ([i8_a] : List Int))))))
      ((R22_0 a58 a60 N m (Sl22a p0 l1 (w64 (i8_a + (1 : Int))) out7_a))))))))
      (some (out7_a, (0 : Int))) := by kernel_rfl
theorem ql22a (a58 : (Int × List (List Int) × Unit) → (List Int) → Int → Option (Int)) (a60 : (Int × List (List Int) × Unit) → (List Int) → Option (Int)) (N : Nat) (p0 : Int × List (List Int) × Unit) (l1 : List Int) : ∀ (m : Nat) (i8_a : Int) (out7_a : List Int), R22_0 a58 a60 N m (Sl22a p0 l1 i8_a out7_a) = l22a a58 a60 N p0 l1 m i8_a out7_a
        | 0, _, _ => rfl
        | m + 1, i8_a, out7_a => by rw [wl22a]; simp only [l22a, ql22a a58 a60 N p0 l1 m]
def m22 (a58 : (Int × List (List Int) × Unit) → (List Int) → Int → Option (Int)) (a60 : (Int × List (List Int) × Unit) → (List Int) → Option (Int)) (N : Nat) (p0 : Int × List (List Int) × Unit) (l1 : List Int) : Option (List Int × Int) :=
      (a58 p0 l1 (12 : Int)).bind fun r1 =>
      cond (r1 != (0 : Int)) (some (([] : List Int), r1))
      ((l22a a58 a60 N p0 l1 N (0 : Int) ([] : List Int)))
theorem wm22 (a58 : (Int × List (List Int) × Unit) → (List Int) → Int → Option (Int)) (a60 : (Int × List (List Int) × Unit) → (List Int) → Option (Int)) (N : Nat) (p0 : Int × List (List Int) × Unit) (l1 : List Int) : callF (E22 a58 a60) lv22 N en22 c22 (resOf Try.f22) 40 [.dv (.pair (.int .i64) (.pair (.sl (.sl (.int .i64))) (.unit))) p0, .dv (.sl (.int .i64)) l1] [] dec22 = (a58 p0 l1 (12 : Int)).bind fun r1 =>
      cond (r1 != (0 : Int)) (some (([] : List Int), r1))
      ((R22_0 a58 a60 N N (Sl22a p0 l1 (0 : Int) ([] : List Int)))) := by kernel_rfl
theorem k22 (a58 : (Int × List (List Int) × Unit) → (List Int) → Int → Option (Int)) (a60 : (Int × List (List Int) × Unit) → (List Int) → Option (Int)) (N : Nat) (p0 : Int × List (List Int) × Unit) (l1 : List Int) : callF (E22 a58 a60) lv22 N en22 c22 (resOf Try.f22) 40 [.dv (.pair (.int .i64) (.pair (.sl (.sl (.int .i64))) (.unit))) p0, .dv (.sl (.int .i64)) l1] [] dec22 = m22 a58 a60 N p0 l1 := by rw [wm22]; simp only [m22, ql22a]
theorem ok22 (a58 : (Int × List (List Int) × Unit) → (List Int) → Int → Option (Int)) (a60 : (Int × List (List Int) × Unit) → (List Int) → Option (Int)) (h58 : FnOk Try.prog 58 (F58 a58)) (h60 : FnOk Try.prog 60 (F60 a60)) (a : (Int × List (List Int) × Unit) → (List Int) → Option (List Int × Int)) (h : ∀ p0 l1 r, a p0 l1 = some r → (∃ N, m22 a58 a60 N p0 l1 = some r)) : FnOk Try.prog 22 (F22 a) := by
  intro args Of x hx
  simp only [F22] at hx
  split at hx
  · rename_i p0 l1
    obtain ⟨N, hN⟩ := h _ _ _ hx
    refine lifted (L := [(58, F58 a58), (60, F60 a60)]) (rc := nrc) (fz := nfz) (fn := Try.f22) (by kernel_rfl) (by kernel_rfl) (by kernel_rfl) (by kernel_rfl) rfl ?_ ((k22 a58 a60 N _ _).trans hN) ?_
    · intro p hp; simp only [List.mem_cons, List.not_mem_nil, or_false] at hp; rcases hp with rfl | rfl
      · exact h58
      · exact h60
    · intro l o hd
      simp only [dec22] at hd
      split at hd
      · obtain rfl := Option.some.inj hd; exact ⟨rfl, rfl⟩
      · cases hd
  · cases hx
def E27 (a58 : (Int × List (List Int) × Unit) → (List Int) → Int → Option (Int)) (a66 : Int → Int → Int → Option (Bool)) : Env := mkE TI TY [(58, F58 a58), (66, F66 a66)] nrc nfz
noncomputable def c27 : Code := bodyOf Try.f27
def nm27_0 : Norm := ⟨[1, 2, 3, 9, 10], [3, 33], [], []⟩
def nm27_1 : Norm := ⟨[1, 2, 3, 9, 11], [3], [], [(9, .sl (.int .i64))]⟩
def nm27_2 : Norm := ⟨[1, 2, 3, 9, 11, 12, 13], [3, 51], [], []⟩
def lv27 : Nat → Option Norm := norms [(8, nm27_0), (12, nm27_1), (16, nm27_2)]
def en27 : End := ⟨[], ⟨[111, 112], [], [], []⟩⟩
def dec27 (l : List TV) (o : List (Nat × TO)) : Option (Int × Int) := match l, o with | [.dv (.int .i64) x0, .dv (.int .i64) x1], [] => some (x0, x1) | _, _ => none
noncomputable def K27_0 (a58 : (Int × List (List Int) × Unit) → (List Int) → Int → Option (Int)) (a66 : Int → Int → Int → Option (Bool)) (N : Nat) : Kont (Int × Int) := kont (E27 a58 a66) lv27 N c27 [1, 1, 1, 1, 1, 0, 1, 0] (fin TI en27 (resOf Try.f27) dec27)
noncomputable def R27_0 (a58 : (Int × List (List Int) × Unit) → (List Int) → Int → Option (Int)) (a66 : Int → Int → Int → Option (Bool)) (N : Nat) (m : Nat) : TS → Option (Int × Int) := loopK (den (E27 a58 a66) lv27 N (sub c27 [1, 1, 1, 1, 1, 0, 1, 0, 0])) (TS.norm nm27_0) (K27_0 a58 a66 N) m
noncomputable def K27_1 (a58 : (Int × List (List Int) × Unit) → (List Int) → Int → Option (Int)) (a66 : Int → Int → Int → Option (Bool)) (N : Nat) : Kont (Int × Int) := kont (E27 a58 a66) lv27 N c27 [1, 1, 1, 1, 1, 1, 0, 1, 0] (fin TI en27 (resOf Try.f27) dec27)
noncomputable def R27_1 (a58 : (Int × List (List Int) × Unit) → (List Int) → Int → Option (Int)) (a66 : Int → Int → Int → Option (Bool)) (N : Nat) (m : Nat) : TS → Option (Int × Int) := loopK (den (E27 a58 a66) lv27 N (sub c27 [1, 1, 1, 1, 1, 1, 0, 1, 0, 0])) (TS.norm nm27_1) (K27_1 a58 a66 N) m
noncomputable def K27_2 (a58 : (Int × List (List Int) × Unit) → (List Int) → Int → Option (Int)) (a66 : Int → Int → Int → Option (Bool)) (N : Nat) (T27_1 : TS → Option (Int × Int)) : Kont (Int × Int) := kont (E27 a58 a66) lv27 N (sub c27 [1, 1, 1, 1, 1, 1, 0, 1, 0, 0]) [1, 0, 0, 1, 0, 1, 0] (kloop (TS.norm nm27_1) (K27_1 a58 a66 N) T27_1)
noncomputable def R27_2 (a58 : (Int × List (List Int) × Unit) → (List Int) → Int → Option (Int)) (a66 : Int → Int → Int → Option (Bool)) (N : Nat) (T27_1 : TS → Option (Int × Int)) (m : Nat) : TS → Option (Int × Int) := loopK (den (E27 a58 a66) lv27 N (sub c27 [1, 1, 1, 1, 1, 1, 0, 1, 0, 0, 1, 0, 0, 1, 0, 1, 0, 0])) (TS.norm nm27_2) (K27_2 a58 a66 N T27_1) m
def Sl27c (p0 : Int × List (List Int) × Unit) (l1 : List Int) (colour2 : Int) (least9_b : List Int) (i11_b : Int) (c13_c : Int) (o51_c : List Int) : TS := ⟨slots 111 [(1, .dv (.sl (.int .i64)) l1), (2, .dv (.int .i64) colour2), (3, .ptr 3 0 []), (9, .dv (.sl (.int .i64)) least9_b), (11, .dv (.int .i64) i11_b), (12, .row 51), (13, .dv (.int .i64) c13_c)], [(3, .row (.pair (.int .i64) (.pair (.sl (.sl (.int .i64))) (.unit))) ([p0] : List (Int × List (List Int) × Unit))), (51, .row (.int .i64) o51_c)]⟩
def Sl27b (p0 : Int × List (List Int) × Unit) (l1 : List Int) (colour2 : Int) (least9_b : List Int) (i11_b : Int) : TS := ⟨slots 111 [(1, .dv (.sl (.int .i64)) l1), (2, .dv (.int .i64) colour2), (3, .ptr 3 0 []), (9, .dv (.sl (.int .i64)) least9_b), (11, .dv (.int .i64) i11_b)], [(3, .row (.pair (.int .i64) (.pair (.sl (.sl (.int .i64))) (.unit))) ([p0] : List (Int × List (List Int) × Unit)))]⟩
def Sl27a (p0 : Int × List (List Int) × Unit) (l1 : List Int) (colour2 : Int) (c10_a : Int) (o33_a : List Int) : TS := ⟨slots 111 [(1, .dv (.sl (.int .i64)) l1), (2, .dv (.int .i64) colour2), (3, .ptr 3 0 []), (9, .row 33), (10, .dv (.int .i64) c10_a)], [(3, .row (.pair (.int .i64) (.pair (.sl (.sl (.int .i64))) (.unit))) ([p0] : List (Int × List (List Int) × Unit))), (33, .row (.int .i64) o33_a)]⟩
def l27c (a58 : (Int × List (List Int) × Unit) → (List Int) → Int → Option (Int)) (a66 : Int → Int → Int → Option (Bool)) (N : Nat) (p0 : Int × List (List Int) × Unit) (l1 : List Int) (colour2 : Int) (least9_b : List Int) (i11_b : Int) (rec_l27b : (List Int) → Int → Option (Int × Int)) : Nat → Int → (List Int) → Option (Int × Int)
  | 0, _, _ => none
  | n + 1, c13_c, o51_c => cond (decide (c13_c < p0.1)) (chk (decide (0 ≤ i11_b ∧ i11_b < (l1.length : Int))) (chk (decide (0 ≤ l1.getD i11_b.toNat (0 : Int) ∧ l1.getD i11_b.toNat (0 : Int) < (p0.2.1.length : Int))) (chk (decide (0 ≤ c13_c ∧ c13_c < ((p0.2.1.getD ((l1.getD i11_b.toNat (0 : Int)).toNat) ([] : List Int)).length : Int))) (chk (decide (0 ≤ c13_c ∧ c13_c < (least9_b.length : Int))) (cond (decide ((least9_b.getD c13_c.toNat (0 : Int)) ≥ (0 : Int))) (chk (decide (0 ≤ (p0.2.1.getD ((l1.getD i11_b.toNat (0 : Int)).toNat) ([] : List Int)).getD c13_c.toNat (0 : Int) ∧ (p0.2.1.getD ((l1.getD i11_b.toNat (0 : Int)).toNat) ([] : List Int)).getD c13_c.toNat (0 : Int) < (o51_c.length : Int))) (cond (decide ((o51_c.getD (((p0.2.1.getD ((l1.getD i11_b.toNat (0 : Int)).toNat) ([] : List Int)).getD c13_c.toNat (0 : Int)).toNat) (0 : Int)) < (0 : Int))) (chk (decide (0 ≤ c13_c ∧ c13_c < (least9_b.length : Int))) (chk (decide (0 ≤ (p0.2.1.getD ((l1.getD i11_b.toNat (0 : Int)).toNat) ([] : List Int)).getD c13_c.toNat (0 : Int) ∧ (p0.2.1.getD ((l1.getD i11_b.toNat (0 : Int)).toNat) ([] : List Int)).getD c13_c.toNat (0 : Int) < (o51_c.length : Int))) ((l27c a58 a66 N p0 l1 colour2 least9_b i11_b rec_l27b n (w64 (c13_c + (1 : Int))) (o51_c.set (((p0.2.1.getD ((l1.getD i11_b.toNat (0 : Int)).toNat) ([] : List Int)).getD c13_c.toNat (0 : Int)).toNat) (w64 ((least9_b.getD c13_c.toNat (0 : Int)) + (1 : Int))))))))
      (chk (decide (0 ≤ c13_c ∧ c13_c < (least9_b.length : Int))) (chk (decide (0 ≤ (p0.2.1.getD ((l1.getD i11_b.toNat (0 : Int)).toNat) ([] : List Int)).getD c13_c.toNat (0 : Int) ∧ (p0.2.1.getD ((l1.getD i11_b.toNat (0 : Int)).toNat) ([] : List Int)).getD c13_c.toNat (0 : Int) < (o51_c.length : Int))) (cond (decide ((w64 ((least9_b.getD c13_c.toNat (0 : Int)) + (1 : Int))) < (o51_c.getD (((p0.2.1.getD ((l1.getD i11_b.toNat (0 : Int)).toNat) ([] : List Int)).getD c13_c.toNat (0 : Int)).toNat) (0 : Int)))) (chk (decide (0 ≤ c13_c ∧ c13_c < (least9_b.length : Int))) (chk (decide (0 ≤ (p0.2.1.getD ((l1.getD i11_b.toNat (0 : Int)).toNat) ([] : List Int)).getD c13_c.toNat (0 : Int) ∧ (p0.2.1.getD ((l1.getD i11_b.toNat (0 : Int)).toNat) ([] : List Int)).getD c13_c.toNat (0 : Int) < (o51_c.length : Int))) ((l27c a58 a66 N p0 l1 colour2 least9_b i11_b rec_l27b n (w64 (c13_c + (1 : Int))) (o51_c.set (((p0.2.1.getD ((l1.getD i11_b.toNat (0 : Int)).toNat) ([] : List Int)).getD c13_c.toNat (0 : Int)).toNat) (w64 ((least9_b.getD c13_c.toNat (0 : Int)) + (1 : Int))))))))
      ((l27c a58 a66 N p0 l1 colour2 least9_b i11_b rec_l27b n (w64 (c13_c + (1 : Int))) o51_c)))))))
      ((l27c a58 a66 N p0 l1 colour2 least9_b i11_b rec_l27b n (w64 (c13_c + (1 : Int))) o51_c)))))))
      ((rec_l27b o51_c (w64 (i11_b + (1 : Int)))))
theorem wl27c (a58 : (Int × List (List Int) × Unit) → (List Int) → Int → Option (Int)) (a66 : Int → Int → Int → Option (Bool)) (N : Nat) (p0 : Int × List (List Int) × Unit) (l1 : List Int) (colour2 : Int) (least9_b : List Int) (i11_b : Int) (T27_1 : TS → Option (Int × Int)) (m : Nat) (c13_c : Int) (o51_c : List Int) : R27_2 a58 a66 N T27_1 (m + 1) (Sl27c p0 l1 colour2 least9_b i11_b c13_c o51_c) = cond (decide (c13_c < p0.1)) (chk (decide (0 ≤ i11_b ∧ i11_b < (l1.length : Int))) (chk (decide (0 ≤ l1.getD i11_b.toNat (0 : Int) ∧ l1.getD i11_b.toNat (0 : Int) < (p0.2.1.length : Int))) (chk (decide (0 ≤ c13_c ∧ c13_c < ((p0.2.1.getD ((l1.getD i11_b.toNat (0 : Int)).toNat) ([] : List Int)).length : Int))) (chk (decide (0 ≤ c13_c ∧ c13_c < (least9_b.length : Int))) (cond (decide ((least9_b.getD c13_c.toNat (0 : Int)) ≥ (0 : Int))) (chk (decide (0 ≤ (p0.2.1.getD ((l1.getD i11_b.toNat (0 : Int)).toNat) ([] : List Int)).getD c13_c.toNat (0 : Int) ∧ (p0.2.1.getD ((l1.getD i11_b.toNat (0 : Int)).toNat) ([] : List Int)).getD c13_c.toNat (0 : Int) < (o51_c.length : Int))) (cond (decide ((o51_c.getD (((p0.2.1.getD ((l1.getD i11_b.toNat (0 : Int)).toNat) ([] : List Int)).getD c13_c.toNat (0 : Int)).toNat) (0 : Int)) < (0 : Int))) (chk (decide (0 ≤ c13_c ∧ c13_c < (least9_b.length : Int))) (chk (decide (0 ≤ (p0.2.1.getD ((l1.getD i11_b.toNat (0 : Int)).toNat) ([] : List Int)).getD c13_c.toNat (0 : Int) ∧ (p0.2.1.getD ((l1.getD i11_b.toNat (0 : Int)).toNat) ([] : List Int)).getD c13_c.toNat (0 : Int) < (o51_c.length : Int))) ((R27_2 a58 a66 N T27_1 m (Sl27c p0 l1 colour2 least9_b i11_b (w64 (c13_c + (1 : Int))) (o51_c.set (((p0.2.1.getD ((l1.getD i11_b.toNat (0 : Int)).toNat) ([] : List Int)).getD c13_c.toNat (0 : Int)).toNat) (w64 ((least9_b.getD c13_c.toNat (0 : Int)) + (1 : Int)))))))))
      (chk (decide (0 ≤ c13_c ∧ c13_c < (least9_b.length : Int))) (chk (decide (0 ≤ (p0.2.1.getD ((l1.getD i11_b.toNat (0 : Int)).toNat) ([] : List Int)).getD c13_c.toNat (0 : Int) ∧ (p0.2.1.getD ((l1.getD i11_b.toNat (0 : Int)).toNat) ([] : List Int)).getD c13_c.toNat (0 : Int) < (o51_c.length : Int))) (cond (decide ((w64 ((least9_b.getD c13_c.toNat (0 : Int)) + (1 : Int))) < (o51_c.getD (((p0.2.1.getD ((l1.getD i11_b.toNat (0 : Int)).toNat) ([] : List Int)).getD c13_c.toNat (0 : Int)).toNat) (0 : Int)))) (chk (decide (0 ≤ c13_c ∧ c13_c < (least9_b.length : Int))) (chk (decide (0 ≤ (p0.2.1.getD ((l1.getD i11_b.toNat (0 : Int)).toNat) ([] : List Int)).getD c13_c.toNat (0 : Int) ∧ (p0.2.1.getD ((l1.getD i11_b.toNat (0 : Int)).toNat) ([] : List Int)).getD c13_c.toNat (0 : Int) < (o51_c.length : Int))) ((R27_2 a58 a66 N T27_1 m (Sl27c p0 l1 colour2 least9_b i11_b (w64 (c13_c + (1 : Int))) (o51_c.set (((p0.2.1.getD ((l1.getD i11_b.toNat (0 : Int)).toNat) ([] : List Int)).getD c13_c.toNat (0 : Int)).toNat) (w64 ((least9_b.getD c13_c.toNat (0 : Int)) + (1 : Int)))))))))
      ((R27_2 a58 a66 N T27_1 m (Sl27c p0 l1 colour2 least9_b i11_b (w64 (c13_c + (1 : Int))) o51_c))))))))
      ((R27_2 a58 a66 N T27_1 m (Sl27c p0 l1 colour2 least9_b i11_b (w64 (c13_c + (1 : Int))) o51_c))))))))
      ((T27_1 (Sl27b p0 l1 colour2 o51_c (w64 (i11_b + (1 : Int)))))) := by kernel_rfl
theorem ql27c (a58 : (Int × List (List Int) × Unit) → (List Int) → Int → Option (Int)) (a66 : Int → Int → Int → Option (Bool)) (N : Nat) (p0 : Int × List (List Int) × Unit) (l1 : List Int) (colour2 : Int) (least9_b : List Int) (i11_b : Int) (T27_1 : TS → Option (Int × Int)) : ∀ (m : Nat) (c13_c : Int) (o51_c : List Int), R27_2 a58 a66 N T27_1 m (Sl27c p0 l1 colour2 least9_b i11_b c13_c o51_c) = l27c a58 a66 N p0 l1 colour2 least9_b i11_b (fun y0 y1 => T27_1 (Sl27b p0 l1 colour2 y0 y1)) m c13_c o51_c
        | 0, _, _ => rfl
        | m + 1, c13_c, o51_c => by rw [wl27c]; simp only [l27c, ql27c a58 a66 N p0 l1 colour2 least9_b i11_b T27_1 m]
def l27b (a58 : (Int × List (List Int) × Unit) → (List Int) → Int → Option (Int)) (a66 : Int → Int → Int → Option (Bool)) (N : Nat) (p0 : Int × List (List Int) × Unit) (l1 : List Int) (colour2 : Int) : Nat → (List Int) → Int → Option (Int × Int)
  | 0, _, _ => none
  | n + 1, least9_b, i11_b => cond (decide (i11_b < (l1.length : Int))) (chk (small (0 + least9_b.length) 8) ((l27c a58 a66 N p0 l1 colour2 least9_b i11_b (fun y0 y1 => (l27b a58 a66 N p0 l1 colour2 n y0 y1)) N (0 : Int) (([] : List Int) ++ least9_b))))
      (chk (decide (0 ≤ colour2 ∧ colour2 < (least9_b.length : Int))) (cond (decide ((least9_b.getD colour2.toNat (0 : Int)) < (0 : Int))) (some ((0 : Int), (14 : Int)))
      (chk (decide (0 ≤ colour2 ∧ colour2 < (least9_b.length : Int))) (some (least9_b.getD colour2.toNat (0 : Int), (0 : Int))))))
theorem wl27b (a58 : (Int × List (List Int) × Unit) → (List Int) → Int → Option (Int)) (a66 : Int → Int → Int → Option (Bool)) (N : Nat) (p0 : Int × List (List Int) × Unit) (l1 : List Int) (colour2 : Int) (m : Nat) (least9_b : List Int) (i11_b : Int) : R27_1 a58 a66 N (m + 1) (Sl27b p0 l1 colour2 least9_b i11_b) = cond (decide (i11_b < (l1.length : Int))) (chk (small (0 + least9_b.length) 8) ((R27_2 a58 a66 N (R27_1 a58 a66 N m) N (Sl27c p0 l1 colour2 least9_b i11_b (0 : Int) (([] : List Int) ++ least9_b)))))
      (chk (decide (0 ≤ colour2 ∧ colour2 < (least9_b.length : Int))) (cond (decide ((least9_b.getD colour2.toNat (0 : Int)) < (0 : Int))) (some ((0 : Int), (14 : Int)))
      (chk (decide (0 ≤ colour2 ∧ colour2 < (least9_b.length : Int))) (some (least9_b.getD colour2.toNat (0 : Int), (0 : Int)))))) := by kernel_rfl
theorem ql27b (a58 : (Int × List (List Int) × Unit) → (List Int) → Int → Option (Int)) (a66 : Int → Int → Int → Option (Bool)) (N : Nat) (p0 : Int × List (List Int) × Unit) (l1 : List Int) (colour2 : Int) : ∀ (m : Nat) (least9_b : List Int) (i11_b : Int), R27_1 a58 a66 N m (Sl27b p0 l1 colour2 least9_b i11_b) = l27b a58 a66 N p0 l1 colour2 m least9_b i11_b
        | 0, _, _ => rfl
        | m + 1, least9_b, i11_b => by rw [wl27b]; simp only [l27b, ql27c, ql27b a58 a66 N p0 l1 colour2 m]
def l27a (a58 : (Int × List (List Int) × Unit) → (List Int) → Int → Option (Int)) (a66 : Int → Int → Int → Option (Bool)) (N : Nat) (p0 : Int × List (List Int) × Unit) (l1 : List Int) (colour2 : Int) : Nat → Int → (List Int) → Option (Int × Int)
  | 0, _, _ => none
  | n + 1, c10_a, o33_a => cond (decide (c10_a < p0.1)) (chk (decide (0 ≤ c10_a ∧ c10_a < (o33_a.length : Int))) ((l27a a58 a66 N p0 l1 colour2 n (w64 (c10_a + (1 : Int))) (o33_a.set c10_a.toNat (-1 : Int)))))
      ((l27b a58 a66 N p0 l1 colour2 N o33_a (0 : Int)))
theorem wl27a (a58 : (Int × List (List Int) × Unit) → (List Int) → Int → Option (Int)) (a66 : Int → Int → Int → Option (Bool)) (N : Nat) (p0 : Int × List (List Int) × Unit) (l1 : List Int) (colour2 : Int) (m : Nat) (c10_a : Int) (o33_a : List Int) : R27_0 a58 a66 N (m + 1) (Sl27a p0 l1 colour2 c10_a o33_a) = cond (decide (c10_a < p0.1)) (chk (decide (0 ≤ c10_a ∧ c10_a < (o33_a.length : Int))) ((R27_0 a58 a66 N m (Sl27a p0 l1 colour2 (w64 (c10_a + (1 : Int))) (o33_a.set c10_a.toNat (-1 : Int))))))
      ((R27_1 a58 a66 N N (Sl27b p0 l1 colour2 o33_a (0 : Int)))) := by kernel_rfl
theorem ql27a (a58 : (Int × List (List Int) × Unit) → (List Int) → Int → Option (Int)) (a66 : Int → Int → Int → Option (Bool)) (N : Nat) (p0 : Int × List (List Int) × Unit) (l1 : List Int) (colour2 : Int) : ∀ (m : Nat) (c10_a : Int) (o33_a : List Int), R27_0 a58 a66 N m (Sl27a p0 l1 colour2 c10_a o33_a) = l27a a58 a66 N p0 l1 colour2 m c10_a o33_a
        | 0, _, _ => rfl
        | m + 1, c10_a, o33_a => by rw [wl27a]; simp only [l27a, ql27b, ql27a a58 a66 N p0 l1 colour2 m]
def m27 (a58 : (Int × List (List Int) × Unit) → (List Int) → Int → Option (Int)) (a66 : Int → Int → Int → Option (Bool)) (N : Nat) (p0 : Int × List (List Int) × Unit) (l1 : List Int) (colour2 : Int) : Option (Int × Int) :=
      (a58 p0 l1 (12 : Int)).bind fun r1 =>
      cond (r1 == (0 : Int)) ((a66 colour2 (0 : Int) (w64 (p0.1 - (1 : Int)))).bind fun r2 =>
      cond (!r2) (some ((0 : Int), (4 : Int)))
      (cond (r1 != (0 : Int)) (some ((0 : Int), r1))
      (chk (mkOk p0.1 p0.1 8) ((l27a a58 a66 N p0 l1 colour2 N (1 : Int) (List.replicate p0.1.toNat (0 : Int)))))))
      (cond (r1 != (0 : Int)) (some ((0 : Int), r1))
      (chk (mkOk p0.1 p0.1 8) ((l27a a58 a66 N p0 l1 colour2 N (1 : Int) (List.replicate p0.1.toNat (0 : Int))))))
theorem wm27 (a58 : (Int × List (List Int) × Unit) → (List Int) → Int → Option (Int)) (a66 : Int → Int → Int → Option (Bool)) (N : Nat) (p0 : Int × List (List Int) × Unit) (l1 : List Int) (colour2 : Int) : callF (E27 a58 a66) lv27 N en27 c27 (resOf Try.f27) 108 [.dv (.pair (.int .i64) (.pair (.sl (.sl (.int .i64))) (.unit))) p0, .dv (.sl (.int .i64)) l1, .dv (.int .i64) colour2] [] dec27 = (a58 p0 l1 (12 : Int)).bind fun r1 =>
      cond (r1 == (0 : Int)) ((a66 colour2 (0 : Int) (w64 (p0.1 - (1 : Int)))).bind fun r2 =>
      cond (!r2) (some ((0 : Int), (4 : Int)))
      (cond (r1 != (0 : Int)) (some ((0 : Int), r1))
      (chk (mkOk p0.1 p0.1 8) ((R27_0 a58 a66 N N (Sl27a p0 l1 colour2 (1 : Int) (List.replicate p0.1.toNat (0 : Int))))))))
      (cond (r1 != (0 : Int)) (some ((0 : Int), r1))
      (chk (mkOk p0.1 p0.1 8) ((R27_0 a58 a66 N N (Sl27a p0 l1 colour2 (1 : Int) (List.replicate p0.1.toNat (0 : Int))))))) := by kernel_rfl
theorem k27 (a58 : (Int × List (List Int) × Unit) → (List Int) → Int → Option (Int)) (a66 : Int → Int → Int → Option (Bool)) (N : Nat) (p0 : Int × List (List Int) × Unit) (l1 : List Int) (colour2 : Int) : callF (E27 a58 a66) lv27 N en27 c27 (resOf Try.f27) 108 [.dv (.pair (.int .i64) (.pair (.sl (.sl (.int .i64))) (.unit))) p0, .dv (.sl (.int .i64)) l1, .dv (.int .i64) colour2] [] dec27 = m27 a58 a66 N p0 l1 colour2 := by rw [wm27]; simp only [m27, ql27a]
theorem ok27 (a58 : (Int × List (List Int) × Unit) → (List Int) → Int → Option (Int)) (a66 : Int → Int → Int → Option (Bool)) (h58 : FnOk Try.prog 58 (F58 a58)) (h66 : FnOk Try.prog 66 (F66 a66)) (a : (Int × List (List Int) × Unit) → (List Int) → Int → Option (Int × Int)) (h : ∀ p0 l1 colour2 r, a p0 l1 colour2 = some r → (∃ N, m27 a58 a66 N p0 l1 colour2 = some r)) : FnOk Try.prog 27 (F27 a) := by
  intro args Of x hx
  simp only [F27] at hx
  split at hx
  · rename_i p0 l1 colour2
    obtain ⟨N, hN⟩ := h _ _ _ _ hx
    refine lifted (L := [(58, F58 a58), (66, F66 a66)]) (rc := nrc) (fz := nfz) (fn := Try.f27) (by kernel_rfl) (by kernel_rfl) (by kernel_rfl) (by kernel_rfl) rfl ?_ ((k27 a58 a66 N _ _ _).trans hN) ?_
    · intro p hp; simp only [List.mem_cons, List.not_mem_nil, or_false] at hp; rcases hp with rfl | rfl
      · exact h58
      · exact h66
    · intro l o hd
      simp only [dec27] at hd
      split at hd
      · obtain rfl := Option.some.inj hd; exact ⟨rfl, rfl⟩
      · cases hd
  · cases hx
def E28 : Env := mkE TI TY [] nrc nfz
noncomputable def c28 : Code := bodyOf Try.f28
def nm28_0 : Norm := ⟨[0, 3, 4], [], [], []⟩
def lv28 : Nat → Option Norm := norms [(3, nm28_0)]
def en28 : End := ⟨[], ⟨[18], [], [], []⟩⟩
def dec28 (l : List TV) (o : List (Nat × TO)) : Option (Int) := match l, o with | [.dv (.int .i64) x0], [] => some (x0) | _, _ => none
noncomputable def K28_0 (N : Nat) : Kont (Int) := kont (E28) lv28 N c28 [1, 1, 0, 1, 0] (fin TI en28 (resOf Try.f28) dec28)
noncomputable def R28_0 (N : Nat) (m : Nat) : TS → Option (Int) := loopK (den (E28) lv28 N (sub c28 [1, 1, 0, 1, 0, 0])) (TS.norm nm28_0) (K28_0 N) m
def Sl28a (choice0 : List Bool) (n3_a : Int) (i4_a : Int) : TS := ⟨slots 18 [(0, .dv (.sl (.bool)) choice0), (3, .dv (.int .i64) n3_a), (4, .dv (.int .i64) i4_a)], []⟩
def l28a (N : Nat) (choice0 : List Bool) : Nat → Int → Int → Option (Int)
  | 0, _, _ => none
  | n + 1, n3_a, i4_a => cond (decide (i4_a < (choice0.length : Int))) (chk (decide (0 ≤ i4_a ∧ i4_a < (choice0.length : Int))) (cond (choice0.getD i4_a.toNat false) ((l28a N choice0 n (w64 (n3_a + (1 : Int))) (w64 (i4_a + (1 : Int)))))
      ((l28a N choice0 n n3_a (w64 (i4_a + (1 : Int)))))))
      (some n3_a)
theorem wl28a (N : Nat) (choice0 : List Bool) (m : Nat) (n3_a : Int) (i4_a : Int) : R28_0 N (m + 1) (Sl28a choice0 n3_a i4_a) = cond (decide (i4_a < (choice0.length : Int))) (chk (decide (0 ≤ i4_a ∧ i4_a < (choice0.length : Int))) (cond (choice0.getD i4_a.toNat false) ((R28_0 N m (Sl28a choice0 (w64 (n3_a + (1 : Int))) (w64 (i4_a + (1 : Int))))))
      ((R28_0 N m (Sl28a choice0 n3_a (w64 (i4_a + (1 : Int))))))))
      (some n3_a) := by kernel_rfl
theorem ql28a (N : Nat) (choice0 : List Bool) : ∀ (m : Nat) (n3_a : Int) (i4_a : Int), R28_0 N m (Sl28a choice0 n3_a i4_a) = l28a N choice0 m n3_a i4_a
        | 0, _, _ => rfl
        | m + 1, n3_a, i4_a => by rw [wl28a]; simp only [l28a, ql28a N choice0 m]
def m28 (N : Nat) (choice0 : List Bool) : Option (Int) :=
      (l28a N choice0 N (0 : Int) (0 : Int))
theorem wm28 (N : Nat) (choice0 : List Bool) : callF (E28) lv28 N en28 c28 (resOf Try.f28) 17 [.dv (.sl (.bool)) choice0] [] dec28 = (R28_0 N N (Sl28a choice0 (0 : Int) (0 : Int))) := by kernel_rfl
theorem k28 (N : Nat) (choice0 : List Bool) : callF (E28) lv28 N en28 c28 (resOf Try.f28) 17 [.dv (.sl (.bool)) choice0] [] dec28 = m28 N choice0 := by rw [wm28]; simp only [m28, ql28a]
theorem ok28 (a : (List Bool) → Option (Int)) (h : ∀ choice0 r, a choice0 = some r → (∃ N, m28 N choice0 = some r)) : FnOk Try.prog 28 (F28 a) := by
  intro args Of x hx
  simp only [F28] at hx
  split at hx
  · rename_i choice0
    obtain ⟨N, hN⟩ := h _ _ hx
    refine lifted (L := []) (rc := nrc) (fz := nfz) (fn := Try.f28) (by kernel_rfl) (by kernel_rfl) (by kernel_rfl) (by kernel_rfl) rfl ?_ ((k28 N _).trans hN) ?_
    · intro p hp; cases hp
    · intro l o hd
      simp only [dec28] at hd
      split at hd
      · obtain rfl := Option.some.inj hd; exact ⟨rfl, rfl⟩
      · cases hd
  · cases hx
def E69 (a73 : (Int × List (List Int) × Unit) → Int → Int → Option (Int)) : Env := mkE TI TY [(73, F73 a73)] nrc nfz
noncomputable def c69 : Code := bodyOf Try.f69
def nm69_0 : Norm := ⟨[1, 3, 4], [1], [], []⟩
def nm69_1 : Norm := ⟨[1, 3, 4, 5], [1], [], []⟩
def lv69 : Nat → Option Norm := norms [(3, nm69_0), (6, nm69_1)]
def en69 : End := ⟨[], ⟨[24], [], [], []⟩⟩
def dec69 (l : List TV) (o : List (Nat × TO)) : Option (Int) := match l, o with | [.dv (.int .i64) x0], [] => some (x0) | _, _ => none
noncomputable def K69_0 (a73 : (Int × List (List Int) × Unit) → Int → Int → Option (Int)) (N : Nat) : Kont (Int) := kont (E69 a73) lv69 N c69 [1, 1, 0, 1, 0] (fin TI en69 (resOf Try.f69) dec69)
noncomputable def R69_0 (a73 : (Int × List (List Int) × Unit) → Int → Int → Option (Int)) (N : Nat) (m : Nat) : TS → Option (Int) := loopK (den (E69 a73) lv69 N (sub c69 [1, 1, 0, 1, 0, 0])) (TS.norm nm69_0) (K69_0 a73 N) m
noncomputable def K69_1 (a73 : (Int × List (List Int) × Unit) → Int → Int → Option (Int)) (N : Nat) (T69_0 : TS → Option (Int)) : Kont (Int) := kont (E69 a73) lv69 N (sub c69 [1, 1, 0, 1, 0, 0]) [1, 0, 0, 1, 0] (kloop (TS.norm nm69_0) (K69_0 a73 N) T69_0)
noncomputable def R69_1 (a73 : (Int × List (List Int) × Unit) → Int → Int → Option (Int)) (N : Nat) (T69_0 : TS → Option (Int)) (m : Nat) : TS → Option (Int) := loopK (den (E69 a73) lv69 N (sub c69 [1, 1, 0, 1, 0, 0, 1, 0, 0, 1, 0, 0])) (TS.norm nm69_1) (K69_1 a73 N T69_0) m
def Sl69b (p0 : Int × List (List Int) × Unit) (round4_a : Int) (set3_b : Int) (i5_b : Int) : TS := ⟨slots 24 [(1, .ptr 1 0 []), (3, .dv (.int .i64) set3_b), (4, .dv (.int .i64) round4_a), (5, .dv (.int .i64) i5_b)], [(1, .row (.pair (.int .i64) (.pair (.sl (.sl (.int .i64))) (.unit))) ([p0] : List (Int × List (List Int) × Unit)))]⟩
def Sl69a (p0 : Int × List (List Int) × Unit) (set3_a : Int) (round4_a : Int) : TS := ⟨slots 24 [(1, .ptr 1 0 []), (3, .dv (.int .i64) set3_a), (4, .dv (.int .i64) round4_a)], [(1, .row (.pair (.int .i64) (.pair (.sl (.sl (.int .i64))) (.unit))) ([p0] : List (Int × List (List Int) × Unit)))]⟩
def l69b (a73 : (Int × List (List Int) × Unit) → Int → Int → Option (Int)) (N : Nat) (p0 : Int × List (List Int) × Unit) (round4_a : Int) (rec_l69a : Int → Int → Option (Int)) : Nat → Int → Int → Option (Int)
  | 0, _, _ => none
  | n + 1, set3_b, i5_b => cond (decide (i5_b < (p0.2.1.length : Int))) ((a73 p0 set3_b i5_b).bind fun r1 =>
      (l69b a73 N p0 round4_a rec_l69a n r1 (w64 (i5_b + (1 : Int)))))
      ((rec_l69a set3_b (w64 (round4_a + (1 : Int)))))
theorem wl69b (a73 : (Int × List (List Int) × Unit) → Int → Int → Option (Int)) (N : Nat) (p0 : Int × List (List Int) × Unit) (round4_a : Int) (T69_0 : TS → Option (Int)) (m : Nat) (set3_b : Int) (i5_b : Int) : R69_1 a73 N T69_0 (m + 1) (Sl69b p0 round4_a set3_b i5_b) = cond (decide (i5_b < (p0.2.1.length : Int))) ((a73 p0 set3_b i5_b).bind fun r1 =>
      (R69_1 a73 N T69_0 m (Sl69b p0 round4_a r1 (w64 (i5_b + (1 : Int))))))
      ((T69_0 (Sl69a p0 set3_b (w64 (round4_a + (1 : Int)))))) := by kernel_rfl
theorem ql69b (a73 : (Int × List (List Int) × Unit) → Int → Int → Option (Int)) (N : Nat) (p0 : Int × List (List Int) × Unit) (round4_a : Int) (T69_0 : TS → Option (Int)) : ∀ (m : Nat) (set3_b : Int) (i5_b : Int), R69_1 a73 N T69_0 m (Sl69b p0 round4_a set3_b i5_b) = l69b a73 N p0 round4_a (fun y0 y1 => T69_0 (Sl69a p0 y0 y1)) m set3_b i5_b
        | 0, _, _ => rfl
        | m + 1, set3_b, i5_b => by rw [wl69b]; simp only [l69b, ql69b a73 N p0 round4_a T69_0 m]
def l69a (a73 : (Int × List (List Int) × Unit) → Int → Int → Option (Int)) (N : Nat) (p0 : Int × List (List Int) × Unit) : Nat → Int → Int → Option (Int)
  | 0, _, _ => none
  | n + 1, set3_a, round4_a => cond (decide (round4_a < p0.1)) ((l69b a73 N p0 round4_a (fun y0 y1 => (l69a a73 N p0 n y0 y1)) N set3_a (0 : Int)))
      (some set3_a)
theorem wl69a (a73 : (Int × List (List Int) × Unit) → Int → Int → Option (Int)) (N : Nat) (p0 : Int × List (List Int) × Unit) (m : Nat) (set3_a : Int) (round4_a : Int) : R69_0 a73 N (m + 1) (Sl69a p0 set3_a round4_a) = cond (decide (round4_a < p0.1)) ((R69_1 a73 N (R69_0 a73 N m) N (Sl69b p0 round4_a set3_a (0 : Int))))
      (some set3_a) := by kernel_rfl
theorem ql69a (a73 : (Int × List (List Int) × Unit) → Int → Int → Option (Int)) (N : Nat) (p0 : Int × List (List Int) × Unit) : ∀ (m : Nat) (set3_a : Int) (round4_a : Int), R69_0 a73 N m (Sl69a p0 set3_a round4_a) = l69a a73 N p0 m set3_a round4_a
        | 0, _, _ => rfl
        | m + 1, set3_a, round4_a => by rw [wl69a]; simp only [l69a, ql69b, ql69a a73 N p0 m]
def m69 (a73 : (Int × List (List Int) × Unit) → Int → Int → Option (Int)) (N : Nat) (p0 : Int × List (List Int) × Unit) : Option (Int) :=
      (l69a a73 N p0 N (1 : Int) (0 : Int))
theorem wm69 (a73 : (Int × List (List Int) × Unit) → Int → Int → Option (Int)) (N : Nat) (p0 : Int × List (List Int) × Unit) : callF (E69 a73) lv69 N en69 c69 (resOf Try.f69) 23 [.dv (.pair (.int .i64) (.pair (.sl (.sl (.int .i64))) (.unit))) p0] [] dec69 = (R69_0 a73 N N (Sl69a p0 (1 : Int) (0 : Int))) := by kernel_rfl
theorem k69 (a73 : (Int × List (List Int) × Unit) → Int → Int → Option (Int)) (N : Nat) (p0 : Int × List (List Int) × Unit) : callF (E69 a73) lv69 N en69 c69 (resOf Try.f69) 23 [.dv (.pair (.int .i64) (.pair (.sl (.sl (.int .i64))) (.unit))) p0] [] dec69 = m69 a73 N p0 := by rw [wm69]; simp only [m69, ql69a]
theorem ok69 (a73 : (Int × List (List Int) × Unit) → Int → Int → Option (Int)) (h73 : FnOk Try.prog 73 (F73 a73)) (a : (Int × List (List Int) × Unit) → Option (Int)) (h : ∀ p0 r, a p0 = some r → (∃ N, m69 a73 N p0 = some r)) : FnOk Try.prog 69 (F69 a) := by
  intro args Of x hx
  simp only [F69] at hx
  split at hx
  · rename_i p0
    obtain ⟨N, hN⟩ := h _ _ hx
    refine lifted (L := [(73, F73 a73)]) (rc := nrc) (fz := nfz) (fn := Try.f69) (by kernel_rfl) (by kernel_rfl) (by kernel_rfl) (by kernel_rfl) rfl ?_ ((k69 a73 N _).trans hN) ?_
    · intro p hp; simp only [List.mem_cons, List.not_mem_nil, or_false] at hp; rcases hp with rfl; exact h73
    · intro l o hd
      simp only [dec69] at hd
      split at hd
      · obtain rfl := Option.some.inj hd; exact ⟨rfl, rfl⟩
      · cases hd
  · cases hx
def E30 (a25 : (Int × List (List Int) × Unit) → Option (Int)) (a59 : Int → Option (List Int)) (a69 : (Int × List (List Int) × Unit) → Option (Int)) : Env := mkE TI TY [(25, F25 a25), (59, F59 a59), (69, F69 a69)] nrc nfz
noncomputable def c30 : Code := bodyOf Try.f30
def lv30 : Nat → Option Norm := norms []
def en30 : End := ⟨[(13, .sl (.int .i64))], ⟨[13, 14], [], [], []⟩⟩
def dec30 (l : List TV) (o : List (Nat × TO)) : Option (List Int × Int) := match l, o with | [.dv (.sl (.int .i64)) x0, .dv (.int .i64) x1], [] => some (x0, x1) | _, _ => none
def m30 (a25 : (Int × List (List Int) × Unit) → Option (Int)) (a59 : Int → Option (List Int)) (a69 : (Int × List (List Int) × Unit) → Option (Int)) (N : Nat) (p0 : Int × List (List Int) × Unit) : Option (List Int × Int) :=
      (a25 p0).bind fun r1 =>
      cond (r1 != (0 : Int)) (some (([] : List Int), r1))
      ((a69 p0).bind fun r2 =>
      (a59 r2).bind fun r3 =>
      some (r3, (0 : Int)))
theorem k30 (a25 : (Int × List (List Int) × Unit) → Option (Int)) (a59 : Int → Option (List Int)) (a69 : (Int × List (List Int) × Unit) → Option (Int)) (N : Nat) (p0 : Int × List (List Int) × Unit) : callF (E30 a25 a59 a69) lv30 N en30 c30 (resOf Try.f30) 12 [.dv (.pair (.int .i64) (.pair (.sl (.sl (.int .i64))) (.unit))) p0] [] dec30 = m30 a25 a59 a69 N p0 := by kernel_rfl
theorem ok30 (a25 : (Int × List (List Int) × Unit) → Option (Int)) (a59 : Int → Option (List Int)) (a69 : (Int × List (List Int) × Unit) → Option (Int)) (h25 : FnOk Try.prog 25 (F25 a25)) (h59 : FnOk Try.prog 59 (F59 a59)) (h69 : FnOk Try.prog 69 (F69 a69)) (a : (Int × List (List Int) × Unit) → Option (List Int × Int)) (h : ∀ p0 r, a p0 = some r → (∃ N, m30 a25 a59 a69 N p0 = some r)) : FnOk Try.prog 30 (F30 a) := by
  intro args Of x hx
  simp only [F30] at hx
  split at hx
  · rename_i p0
    obtain ⟨N, hN⟩ := h _ _ hx
    refine lifted (L := [(25, F25 a25), (59, F59 a59), (69, F69 a69)]) (rc := nrc) (fz := nfz) (fn := Try.f30) (by kernel_rfl) (by kernel_rfl) (by kernel_rfl) (by kernel_rfl) rfl ?_ ((k30 a25 a59 a69 N _).trans hN) ?_
    · intro p hp; simp only [List.mem_cons, List.not_mem_nil, or_false] at hp; rcases hp with rfl | rfl | rfl
      · exact h25
      · exact h59
      · exact h69
    · intro l o hd
      simp only [dec30] at hd
      split at hd
      · obtain rfl := Option.some.inj hd; exact ⟨rfl, rfl⟩
      · cases hd
  · cases hx
def E72 (a66 : Int → Int → Int → Option (Bool)) : Env := mkE TI TY [(66, F66 a66)] nrc nfz
noncomputable def c72 : Code := bodyOf Try.f72
def nm72_0 : Norm := ⟨[1, 2, 6, 7], [2], [], []⟩
def lv72 : Nat → Option Norm := norms [(3, nm72_0)]
def en72 : End := ⟨[], ⟨[45, 46], [], [], []⟩⟩
def dec72 (l : List TV) (o : List (Nat × TO)) : Option (Int × Int) := match l, o with | [.dv (.int .i64) x0, .dv (.int .i64) x1], [] => some (x0, x1) | _, _ => none
noncomputable def K72_0 (a66 : Int → Int → Int → Option (Bool)) (N : Nat) : Kont (Int × Int) := kont (E72 a66) lv72 N c72 [1, 1, 0, 1, 0] (fin TI en72 (resOf Try.f72) dec72)
noncomputable def R72_0 (a66 : Int → Int → Int → Option (Bool)) (N : Nat) (m : Nat) : TS → Option (Int × Int) := loopK (den (E72 a66) lv72 N (sub c72 [1, 1, 0, 1, 0, 0])) (TS.norm nm72_0) (K72_0 a66 N) m
def Sl72a (p0 : Int × List (List Int) × Unit) (l1 : List Int) (set6_a : Int) (i7_a : Int) : TS := ⟨slots 45 [(1, .dv (.sl (.int .i64)) l1), (2, .ptr 2 0 []), (6, .dv (.int .i64) set6_a), (7, .dv (.int .i64) i7_a)], [(2, .row (.pair (.int .i64) (.pair (.sl (.sl (.int .i64))) (.unit))) ([p0] : List (Int × List (List Int) × Unit)))]⟩
def l72a (a66 : Int → Int → Int → Option (Bool)) (N : Nat) (p0 : Int × List (List Int) × Unit) (l1 : List Int) : Nat → Int → Int → Option (Int × Int)
  | 0, _, _ => none
  | n + 1, set6_a, i7_a => cond (decide (i7_a < (l1.length : Int))) (chk (decide (0 ≤ i7_a ∧ i7_a < (l1.length : Int))) ((a66 (l1.getD i7_a.toNat (0 : Int)) (0 : Int) (w64 (p0.1 - (1 : Int)))).bind fun r1 =>
      cond (!r1) (some ((0 : Int), (5 : Int)))
      (cond (decide (i7_a > (0 : Int))) (chk (decide (0 ≤ i7_a ∧ i7_a < (l1.length : Int))) (chk (decide (0 ≤ w64 (i7_a - (1 : Int)) ∧ w64 (i7_a - (1 : Int)) < (l1.length : Int))) (cond (decide ((l1.getD i7_a.toNat (0 : Int)) ≤ (l1.getD ((w64 (i7_a - (1 : Int))).toNat) (0 : Int)))) (some ((0 : Int), (7 : Int)))
      (chk (decide (0 ≤ i7_a ∧ i7_a < (l1.length : Int))) (chk (decide (0 ≤ l1.getD i7_a.toNat (0 : Int))) ((l72a a66 N p0 l1 n (bOr .i64 set6_a (IntKind.wrap .i64 ((1 : Int) * 2 ^ min (Int.toNat (l1.getD i7_a.toNat (0 : Int))) 64))) (w64 (i7_a + (1 : Int))))))))))
      (chk (decide (0 ≤ i7_a ∧ i7_a < (l1.length : Int))) (chk (decide (0 ≤ l1.getD i7_a.toNat (0 : Int))) ((l72a a66 N p0 l1 n (bOr .i64 set6_a (IntKind.wrap .i64 ((1 : Int) * 2 ^ min (Int.toNat (l1.getD i7_a.toNat (0 : Int))) 64))) (w64 (i7_a + (1 : Int))))))))))
      (some (set6_a, (0 : Int)))
theorem wl72a (a66 : Int → Int → Int → Option (Bool)) (N : Nat) (p0 : Int × List (List Int) × Unit) (l1 : List Int) (m : Nat) (set6_a : Int) (i7_a : Int) : R72_0 a66 N (m + 1) (Sl72a p0 l1 set6_a i7_a) = cond (decide (i7_a < (l1.length : Int))) (chk (decide (0 ≤ i7_a ∧ i7_a < (l1.length : Int))) ((a66 (l1.getD i7_a.toNat (0 : Int)) (0 : Int) (w64 (p0.1 - (1 : Int)))).bind fun r1 =>
      cond (!r1) (some ((0 : Int), (5 : Int)))
      (cond (decide (i7_a > (0 : Int))) (chk (decide (0 ≤ i7_a ∧ i7_a < (l1.length : Int))) (chk (decide (0 ≤ w64 (i7_a - (1 : Int)) ∧ w64 (i7_a - (1 : Int)) < (l1.length : Int))) (cond (decide ((l1.getD i7_a.toNat (0 : Int)) ≤ (l1.getD ((w64 (i7_a - (1 : Int))).toNat) (0 : Int)))) (some ((0 : Int), (7 : Int)))
      (chk (decide (0 ≤ i7_a ∧ i7_a < (l1.length : Int))) (chk (decide (0 ≤ l1.getD i7_a.toNat (0 : Int))) ((R72_0 a66 N m (Sl72a p0 l1 (bOr .i64 set6_a (IntKind.wrap .i64 ((1 : Int) * 2 ^ min (Int.toNat (l1.getD i7_a.toNat (0 : Int))) 64))) (w64 (i7_a + (1 : Int)))))))))))
      (chk (decide (0 ≤ i7_a ∧ i7_a < (l1.length : Int))) (chk (decide (0 ≤ l1.getD i7_a.toNat (0 : Int))) ((R72_0 a66 N m (Sl72a p0 l1 (bOr .i64 set6_a (IntKind.wrap .i64 ((1 : Int) * 2 ^ min (Int.toNat (l1.getD i7_a.toNat (0 : Int))) 64))) (w64 (i7_a + (1 : Int)))))))))))
      (some (set6_a, (0 : Int))) := by kernel_rfl
theorem ql72a (a66 : Int → Int → Int → Option (Bool)) (N : Nat) (p0 : Int × List (List Int) × Unit) (l1 : List Int) : ∀ (m : Nat) (set6_a : Int) (i7_a : Int), R72_0 a66 N m (Sl72a p0 l1 set6_a i7_a) = l72a a66 N p0 l1 m set6_a i7_a
        | 0, _, _ => rfl
        | m + 1, set6_a, i7_a => by rw [wl72a]; simp only [l72a, ql72a a66 N p0 l1 m]
def m72 (a66 : Int → Int → Int → Option (Bool)) (N : Nat) (p0 : Int × List (List Int) × Unit) (l1 : List Int) : Option (Int × Int) :=
      (l72a a66 N p0 l1 N (0 : Int) (0 : Int))
theorem wm72 (a66 : Int → Int → Int → Option (Bool)) (N : Nat) (p0 : Int × List (List Int) × Unit) (l1 : List Int) : callF (E72 a66) lv72 N en72 c72 (resOf Try.f72) 43 [.dv (.pair (.int .i64) (.pair (.sl (.sl (.int .i64))) (.unit))) p0, .dv (.sl (.int .i64)) l1] [] dec72 = (R72_0 a66 N N (Sl72a p0 l1 (0 : Int) (0 : Int))) := by kernel_rfl
theorem k72 (a66 : Int → Int → Int → Option (Bool)) (N : Nat) (p0 : Int × List (List Int) × Unit) (l1 : List Int) : callF (E72 a66) lv72 N en72 c72 (resOf Try.f72) 43 [.dv (.pair (.int .i64) (.pair (.sl (.sl (.int .i64))) (.unit))) p0, .dv (.sl (.int .i64)) l1] [] dec72 = m72 a66 N p0 l1 := by rw [wm72]; simp only [m72, ql72a]
theorem ok72 (a66 : Int → Int → Int → Option (Bool)) (h66 : FnOk Try.prog 66 (F66 a66)) (a : (Int × List (List Int) × Unit) → (List Int) → Option (Int × Int)) (h : ∀ p0 l1 r, a p0 l1 = some r → (∃ N, m72 a66 N p0 l1 = some r)) : FnOk Try.prog 72 (F72 a) := by
  intro args Of x hx
  simp only [F72] at hx
  split at hx
  · rename_i p0 l1
    obtain ⟨N, hN⟩ := h _ _ _ hx
    refine lifted (L := [(66, F66 a66)]) (rc := nrc) (fz := nfz) (fn := Try.f72) (by kernel_rfl) (by kernel_rfl) (by kernel_rfl) (by kernel_rfl) rfl ?_ ((k72 a66 N _ _).trans hN) ?_
    · intro p hp; simp only [List.mem_cons, List.not_mem_nil, or_false] at hp; rcases hp with rfl; exact h66
    · intro l o hd
      simp only [dec72] at hd
      split at hd
      · obtain rfl := Option.some.inj hd; exact ⟨rfl, rfl⟩
      · cases hd
  · cases hx
def E32 (a25 : (Int × List (List Int) × Unit) → Option (Int)) (a66 : Int → Int → Int → Option (Bool)) (a72 : (Int × List (List Int) × Unit) → (List Int) → Option (Int × Int)) (a73 : (Int × List (List Int) × Unit) → Int → Int → Option (Int)) : Env := mkE TI TY [(25, F25 a25), (66, F66 a66), (72, F72 a72), (73, F73 a73)] nrc nfz
noncomputable def c32 : Code := bodyOf Try.f32
def nm32_0 : Norm := ⟨[2, 3, 8, 9], [3], [], []⟩
def lv32 : Nat → Option Norm := norms [(12, nm32_0)]
def en32 : End := ⟨[], ⟨[55], [], [], []⟩⟩
def dec32 (l : List TV) (o : List (Nat × TO)) : Option (Int) := match l, o with | [.dv (.int .i64) x0], [] => some (x0) | _, _ => none
noncomputable def K32_0 (a25 : (Int × List (List Int) × Unit) → Option (Int)) (a66 : Int → Int → Int → Option (Bool)) (a72 : (Int × List (List Int) × Unit) → (List Int) → Option (Int × Int)) (a73 : (Int × List (List Int) × Unit) → Int → Int → Option (Int)) (N : Nat) : Kont (Int) := kont (E32 a25 a66 a72 a73) lv32 N c32 [1, 1, 1, 1, 1, 1, 1, 0, 1, 0] (fin TI en32 (resOf Try.f32) dec32)
noncomputable def R32_0 (a25 : (Int × List (List Int) × Unit) → Option (Int)) (a66 : Int → Int → Int → Option (Bool)) (a72 : (Int × List (List Int) × Unit) → (List Int) → Option (Int × Int)) (a73 : (Int × List (List Int) × Unit) → Int → Int → Option (Int)) (N : Nat) (m : Nat) : TS → Option (Int) := loopK (den (E32 a25 a66 a72 a73) lv32 N (sub c32 [1, 1, 1, 1, 1, 1, 1, 0, 1, 0, 0])) (TS.norm nm32_0) (K32_0 a25 a66 a72 a73 N) m
def Sl32a (p0 : Int × List (List Int) × Unit) (colour2 : Int) (set8_a : Int) (i9_a : Int) : TS := ⟨slots 55 [(2, .dv (.int .i64) colour2), (3, .ptr 3 0 []), (8, .dv (.int .i64) set8_a), (9, .dv (.int .i64) i9_a)], [(3, .row (.pair (.int .i64) (.pair (.sl (.sl (.int .i64))) (.unit))) ([p0] : List (Int × List (List Int) × Unit)))]⟩
def l32a (a25 : (Int × List (List Int) × Unit) → Option (Int)) (a66 : Int → Int → Int → Option (Bool)) (a72 : (Int × List (List Int) × Unit) → (List Int) → Option (Int × Int)) (a73 : (Int × List (List Int) × Unit) → Int → Int → Option (Int)) (N : Nat) (p0 : Int × List (List Int) × Unit) (colour2 : Int) : Nat → Int → Int → Option (Int)
  | 0, _, _ => none
  | n + 1, set8_a, i9_a => cond (decide (i9_a < (p0.2.1.length : Int))) ((a73 p0 set8_a i9_a).bind fun r4 =>
      cond (r4 != set8_a) (some (22 : Int))
      ((l32a a25 a66 a72 a73 N p0 colour2 n set8_a (w64 (i9_a + (1 : Int))))))
      (chk (decide (0 ≤ colour2)) (cond ((bAnd .i64 (Int.fdiv set8_a (2 ^ min (Int.toNat colour2) 64)) (1 : Int)) == (1 : Int)) (some (13 : Int))
      (some (0 : Int))))
theorem wl32a (a25 : (Int × List (List Int) × Unit) → Option (Int)) (a66 : Int → Int → Int → Option (Bool)) (a72 : (Int × List (List Int) × Unit) → (List Int) → Option (Int × Int)) (a73 : (Int × List (List Int) × Unit) → Int → Int → Option (Int)) (N : Nat) (p0 : Int × List (List Int) × Unit) (colour2 : Int) (m : Nat) (set8_a : Int) (i9_a : Int) : R32_0 a25 a66 a72 a73 N (m + 1) (Sl32a p0 colour2 set8_a i9_a) = cond (decide (i9_a < (p0.2.1.length : Int))) ((a73 p0 set8_a i9_a).bind fun r4 =>
      cond (r4 != set8_a) (some (22 : Int))
      ((R32_0 a25 a66 a72 a73 N m (Sl32a p0 colour2 set8_a (w64 (i9_a + (1 : Int)))))))
      (chk (decide (0 ≤ colour2)) (cond ((bAnd .i64 (Int.fdiv set8_a (2 ^ min (Int.toNat colour2) 64)) (1 : Int)) == (1 : Int)) (some (13 : Int))
      (some (0 : Int)))) := by kernel_rfl
theorem ql32a (a25 : (Int × List (List Int) × Unit) → Option (Int)) (a66 : Int → Int → Int → Option (Bool)) (a72 : (Int × List (List Int) × Unit) → (List Int) → Option (Int × Int)) (a73 : (Int × List (List Int) × Unit) → Int → Int → Option (Int)) (N : Nat) (p0 : Int × List (List Int) × Unit) (colour2 : Int) : ∀ (m : Nat) (set8_a : Int) (i9_a : Int), R32_0 a25 a66 a72 a73 N m (Sl32a p0 colour2 set8_a i9_a) = l32a a25 a66 a72 a73 N p0 colour2 m set8_a i9_a
        | 0, _, _ => rfl
        | m + 1, set8_a, i9_a => by rw [wl32a]; simp only [l32a, ql32a a25 a66 a72 a73 N p0 colour2 m]
def m32 (a25 : (Int × List (List Int) × Unit) → Option (Int)) (a66 : Int → Int → Int → Option (Bool)) (a72 : (Int × List (List Int) × Unit) → (List Int) → Option (Int × Int)) (a73 : (Int × List (List Int) × Unit) → Int → Int → Option (Int)) (N : Nat) (p0 : Int × List (List Int) × Unit) (l1 : List Int) (colour2 : Int) : Option (Int) :=
      (a25 p0).bind fun r1 =>
      cond (r1 == (0 : Int)) ((a66 colour2 (0 : Int) (w64 (p0.1 - (1 : Int)))).bind fun r2 =>
      cond (!r2) (some (4 : Int))
      (cond (r1 != (0 : Int)) (some r1)
      ((a72 p0 l1).bind fun r3 =>
      cond (r3.2 != (0 : Int)) (some r3.2)
      (cond ((bAnd .i64 r3.1 (1 : Int)) == (0 : Int)) (some (22 : Int))
      ((l32a a25 a66 a72 a73 N p0 colour2 N r3.1 (0 : Int)))))))
      (cond (r1 != (0 : Int)) (some r1)
      ((a72 p0 l1).bind fun r5 =>
      cond (r5.2 != (0 : Int)) (some r5.2)
      (cond ((bAnd .i64 r5.1 (1 : Int)) == (0 : Int)) (some (22 : Int))
      ((l32a a25 a66 a72 a73 N p0 colour2 N r5.1 (0 : Int))))))
theorem wm32 (a25 : (Int × List (List Int) × Unit) → Option (Int)) (a66 : Int → Int → Int → Option (Bool)) (a72 : (Int × List (List Int) × Unit) → (List Int) → Option (Int × Int)) (a73 : (Int × List (List Int) × Unit) → Int → Int → Option (Int)) (N : Nat) (p0 : Int × List (List Int) × Unit) (l1 : List Int) (colour2 : Int) : callF (E32 a25 a66 a72 a73) lv32 N en32 c32 (resOf Try.f32) 52 [.dv (.pair (.int .i64) (.pair (.sl (.sl (.int .i64))) (.unit))) p0, .dv (.sl (.int .i64)) l1, .dv (.int .i64) colour2] [] dec32 = (a25 p0).bind fun r1 =>
      cond (r1 == (0 : Int)) ((a66 colour2 (0 : Int) (w64 (p0.1 - (1 : Int)))).bind fun r2 =>
      cond (!r2) (some (4 : Int))
      (cond (r1 != (0 : Int)) (some r1)
      ((a72 p0 l1).bind fun r3 =>
      cond (r3.2 != (0 : Int)) (some r3.2)
      (cond ((bAnd .i64 r3.1 (1 : Int)) == (0 : Int)) (some (22 : Int))
      ((R32_0 a25 a66 a72 a73 N N (Sl32a p0 colour2 r3.1 (0 : Int))))))))
      (cond (r1 != (0 : Int)) (some r1)
      ((a72 p0 l1).bind fun r5 =>
      cond (r5.2 != (0 : Int)) (some r5.2)
      (cond ((bAnd .i64 r5.1 (1 : Int)) == (0 : Int)) (some (22 : Int))
      ((R32_0 a25 a66 a72 a73 N N (Sl32a p0 colour2 r5.1 (0 : Int))))))) := by kernel_rfl
theorem k32 (a25 : (Int × List (List Int) × Unit) → Option (Int)) (a66 : Int → Int → Int → Option (Bool)) (a72 : (Int × List (List Int) × Unit) → (List Int) → Option (Int × Int)) (a73 : (Int × List (List Int) × Unit) → Int → Int → Option (Int)) (N : Nat) (p0 : Int × List (List Int) × Unit) (l1 : List Int) (colour2 : Int) : callF (E32 a25 a66 a72 a73) lv32 N en32 c32 (resOf Try.f32) 52 [.dv (.pair (.int .i64) (.pair (.sl (.sl (.int .i64))) (.unit))) p0, .dv (.sl (.int .i64)) l1, .dv (.int .i64) colour2] [] dec32 = m32 a25 a66 a72 a73 N p0 l1 colour2 := by rw [wm32]; simp only [m32, ql32a]
theorem ok32 (a25 : (Int × List (List Int) × Unit) → Option (Int)) (a66 : Int → Int → Int → Option (Bool)) (a72 : (Int × List (List Int) × Unit) → (List Int) → Option (Int × Int)) (a73 : (Int × List (List Int) × Unit) → Int → Int → Option (Int)) (h25 : FnOk Try.prog 25 (F25 a25)) (h66 : FnOk Try.prog 66 (F66 a66)) (h72 : FnOk Try.prog 72 (F72 a72)) (h73 : FnOk Try.prog 73 (F73 a73)) (a : (Int × List (List Int) × Unit) → (List Int) → Int → Option (Int)) (h : ∀ p0 l1 colour2 r, a p0 l1 colour2 = some r → (∃ N, m32 a25 a66 a72 a73 N p0 l1 colour2 = some r)) : FnOk Try.prog 32 (F32 a) := by
  intro args Of x hx
  simp only [F32] at hx
  split at hx
  · rename_i p0 l1 colour2
    obtain ⟨N, hN⟩ := h _ _ _ _ hx
    refine lifted (L := [(25, F25 a25), (66, F66 a66), (72, F72 a72), (73, F73 a73)]) (rc := nrc) (fz := nfz) (fn := Try.f32) (by kernel_rfl) (by kernel_rfl) (by kernel_rfl) (by kernel_rfl) rfl ?_ ((k32 a25 a66 a72 a73 N _ _ _).trans hN) ?_
    · intro p hp; simp only [List.mem_cons, List.not_mem_nil, or_false] at hp; rcases hp with rfl | rfl | rfl | rfl
      · exact h25
      · exact h66
      · exact h72
      · exact h73
    · intro l o hd
      simp only [dec32] at hd
      split at hd
      · obtain rfl := Option.some.inj hd; exact ⟨rfl, rfl⟩
      · cases hd
  · cases hx
def E34 (a25 : (Int × List (List Int) × Unit) → Option (Int)) (a72 : (Int × List (List Int) × Unit) → (List Int) → Option (Int × Int)) (a73 : (Int × List (List Int) × Unit) → Int → Int → Option (Int)) : Env := mkE TI TY [(25, F25 a25), (72, F72 a72), (73, F73 a73)] nrc nfz
noncomputable def c34 : Code := bodyOf Try.f34
def nm34_0 : Norm := ⟨[2, 7, 10], [2], [(.slot 8, 1008, .sl (.int .i64)), (.slot 9, 1009, .int .i64)], []⟩
def nm34_1 : Norm := ⟨[2, 7, 10, 11], [2], [(.slot 8, 1008, .sl (.int .i64)), (.slot 9, 1009, .int .i64)], []⟩
def nm34_2 : Norm := ⟨[2, 7, 8, 9, 10, 11, 12, 13, 14], [2, 1008, 1009], [], []⟩
def lv34 : Nat → Option Norm := norms [(10, nm34_0), (15, nm34_1), (20, nm34_2)]
def en34 : End := ⟨[(96, .sl (.int .i64))], ⟨[96, 97], [], [], []⟩⟩
def dec34 (l : List TV) (o : List (Nat × TO)) : Option (List Int × Int) := match l, o with | [.dv (.sl (.int .i64)) x0, .dv (.int .i64) x1], [] => some (x0, x1) | _, _ => none
noncomputable def K34_0 (a25 : (Int × List (List Int) × Unit) → Option (Int)) (a72 : (Int × List (List Int) × Unit) → (List Int) → Option (Int × Int)) (a73 : (Int × List (List Int) × Unit) → Int → Int → Option (Int)) (N : Nat) : Kont (List Int × Int) := kont (E34 a25 a72 a73) lv34 N c34 [1, 1, 1, 1, 1, 1, 1, 0, 1, 0] (fin TI en34 (resOf Try.f34) dec34)
noncomputable def R34_0 (a25 : (Int × List (List Int) × Unit) → Option (Int)) (a72 : (Int × List (List Int) × Unit) → (List Int) → Option (Int × Int)) (a73 : (Int × List (List Int) × Unit) → Int → Int → Option (Int)) (N : Nat) (m : Nat) : TS → Option (List Int × Int) := loopK (den (E34 a25 a72 a73) lv34 N (sub c34 [1, 1, 1, 1, 1, 1, 1, 0, 1, 0, 0])) (TS.norm nm34_0) (K34_0 a25 a72 a73 N) m
noncomputable def K34_1 (a25 : (Int × List (List Int) × Unit) → Option (Int)) (a72 : (Int × List (List Int) × Unit) → (List Int) → Option (Int × Int)) (a73 : (Int × List (List Int) × Unit) → Int → Int → Option (Int)) (N : Nat) (T34_0 : TS → Option (List Int × Int)) : Kont (List Int × Int) := kont (E34 a25 a72 a73) lv34 N (sub c34 [1, 1, 1, 1, 1, 1, 1, 0, 1, 0, 0]) [1, 0, 0, 1, 1, 0] (kloop (TS.norm nm34_0) (K34_0 a25 a72 a73 N) T34_0)
noncomputable def R34_1 (a25 : (Int × List (List Int) × Unit) → Option (Int)) (a72 : (Int × List (List Int) × Unit) → (List Int) → Option (Int × Int)) (a73 : (Int × List (List Int) × Unit) → Int → Int → Option (Int)) (N : Nat) (T34_0 : TS → Option (List Int × Int)) (m : Nat) : TS → Option (List Int × Int) := loopK (den (E34 a25 a72 a73) lv34 N (sub c34 [1, 1, 1, 1, 1, 1, 1, 0, 1, 0, 0, 1, 0, 0, 1, 1, 0, 0])) (TS.norm nm34_1) (K34_1 a25 a72 a73 N T34_0) m
noncomputable def K34_2 (a25 : (Int × List (List Int) × Unit) → Option (Int)) (a72 : (Int × List (List Int) × Unit) → (List Int) → Option (Int × Int)) (a73 : (Int × List (List Int) × Unit) → Int → Int → Option (Int)) (N : Nat) (T34_0 : TS → Option (List Int × Int)) (T34_1 : TS → Option (List Int × Int)) : Kont (List Int × Int) := kont (E34 a25 a72 a73) lv34 N (sub c34 [1, 1, 1, 1, 1, 1, 1, 0, 1, 0, 0, 1, 0, 0, 1, 1, 0, 0]) [1, 0, 0, 1, 1, 0, 1, 0] (kloop (TS.norm nm34_1) (K34_1 a25 a72 a73 N T34_0) T34_1)
noncomputable def R34_2 (a25 : (Int × List (List Int) × Unit) → Option (Int)) (a72 : (Int × List (List Int) × Unit) → (List Int) → Option (Int × Int)) (a73 : (Int × List (List Int) × Unit) → Int → Int → Option (Int)) (N : Nat) (T34_0 : TS → Option (List Int × Int)) (T34_1 : TS → Option (List Int × Int)) (m : Nat) : TS → Option (List Int × Int) := loopK (den (E34 a25 a72 a73) lv34 N (sub c34 [1, 1, 1, 1, 1, 1, 1, 0, 1, 0, 0, 1, 0, 0, 1, 1, 0, 0, 1, 0, 0, 1, 1, 0, 1, 0, 0])) (TS.norm nm34_2) (K34_2 a25 a72 a73 N T34_0 T34_1) m
def Sl34c (p0 : Int × List (List Int) × Unit) (r2 : Int × Int) (at10_a : Int) (i11_b : Int) (l8_b : List (List Int)) (met9_b : List Int) (r3 : Int) (old13_c : Bool) (k14_c : Int) : TS := ⟨slots 96 [(2, .ptr 2 0 []), (7, .dv (.int .i64) r2.1), (8, .row 1008), (9, .row 1009), (10, .dv (.int .i64) at10_a), (11, .dv (.int .i64) i11_b), (12, .dv (.int .i64) r3), (13, .dv (.bool) old13_c), (14, .dv (.int .i64) k14_c)], [(2, .row (.pair (.int .i64) (.pair (.sl (.sl (.int .i64))) (.unit))) ([p0] : List (Int × List (List Int) × Unit))), (1008, .row (.sl (.int .i64)) l8_b), (1009, .row (.int .i64) met9_b)]⟩
def Sl34b (p0 : Int × List (List Int) × Unit) (r2 : Int × Int) (at10_a : Int) (i11_b : Int) (l8_b : List (List Int)) (met9_b : List Int) : TS := ⟨slots 96 [(2, .ptr 2 0 []), (7, .dv (.int .i64) r2.1), (8, .row 1008), (9, .row 1009), (10, .dv (.int .i64) at10_a), (11, .dv (.int .i64) i11_b)], [(1008, .row (.sl (.int .i64)) l8_b), (1009, .row (.int .i64) met9_b), (2, .row (.pair (.int .i64) (.pair (.sl (.sl (.int .i64))) (.unit))) ([p0] : List (Int × List (List Int) × Unit)))]⟩
def Sl34a (p0 : Int × List (List Int) × Unit) (r2 : Int × Int) (at10_a : Int) (l8_a : List (List Int)) (met9_a : List Int) : TS := ⟨slots 96 [(2, .ptr 2 0 []), (7, .dv (.int .i64) r2.1), (8, .row 1008), (9, .row 1009), (10, .dv (.int .i64) at10_a)], [(1008, .row (.sl (.int .i64)) l8_a), (1009, .row (.int .i64) met9_a), (2, .row (.pair (.int .i64) (.pair (.sl (.sl (.int .i64))) (.unit))) ([p0] : List (Int × List (List Int) × Unit)))]⟩
def l34c (a25 : (Int × List (List Int) × Unit) → Option (Int)) (a72 : (Int × List (List Int) × Unit) → (List Int) → Option (Int × Int)) (a73 : (Int × List (List Int) × Unit) → Int → Int → Option (Int)) (N : Nat) (p0 : Int × List (List Int) × Unit) (r2 : Int × Int) (at10_a : Int) (i11_b : Int) (l8_b : List (List Int)) (met9_b : List Int) (r3 : Int) (rec_l34b : Int → (List (List Int)) → (List Int) → Option (List Int × Int)) : Nat → Bool → Int → Option (List Int × Int)
  | 0, _, _ => none
  | n + 1, old13_c, k14_c => cond (decide (k14_c < (met9_b.length : Int))) (cond (old13_c) ((l34c a25 a72 a73 N p0 r2 at10_a i11_b l8_b met9_b r3 rec_l34b n true (w64 (k14_c + (1 : Int)))))
      (chk (decide (0 ≤ k14_c ∧ k14_c < (met9_b.length : Int))) ((l34c a25 a72 a73 N p0 r2 at10_a i11_b l8_b met9_b r3 rec_l34b n ((met9_b.getD k14_c.toNat (0 : Int)) == r3) (w64 (k14_c + (1 : Int)))))))
      (cond (!old13_c) (chk (decide (0 ≤ at10_a ∧ at10_a < (l8_b.length : Int))) (chk (small (0 + (l8_b.getD at10_a.toNat ([] : List Int)).length) 8) (chk (small ((([] : List Int) ++ (l8_b.getD at10_a.toNat ([] : List Int))).length + 1) 8) (chk (small (l8_b.length + 1) 24) (chk (small (met9_b.length + 1) 8) ((rec_l34b (w64 (i11_b + (1 : Int))) (l8_b ++ ([(([] : List Int) ++ (l8_b.getD at10_a.toNat ([] : List Int))) ++ ([i11_b] : List Int)] : List (List Int))) (met9_b ++ ([r3] : List Int)))))))))
      ((rec_l34b (w64 (i11_b + (1 : Int))) l8_b met9_b)))
theorem wl34c (a25 : (Int × List (List Int) × Unit) → Option (Int)) (a72 : (Int × List (List Int) × Unit) → (List Int) → Option (Int × Int)) (a73 : (Int × List (List Int) × Unit) → Int → Int → Option (Int)) (N : Nat) (p0 : Int × List (List Int) × Unit) (r2 : Int × Int) (at10_a : Int) (i11_b : Int) (l8_b : List (List Int)) (met9_b : List Int) (r3 : Int) (T34_0 : TS → Option (List Int × Int)) (T34_1 : TS → Option (List Int × Int)) (m : Nat) (old13_c : Bool) (k14_c : Int) : R34_2 a25 a72 a73 N T34_0 T34_1 (m + 1) (Sl34c p0 r2 at10_a i11_b l8_b met9_b r3 old13_c k14_c) = cond (decide (k14_c < (met9_b.length : Int))) (cond (old13_c) ((R34_2 a25 a72 a73 N T34_0 T34_1 m (Sl34c p0 r2 at10_a i11_b l8_b met9_b r3 true (w64 (k14_c + (1 : Int))))))
      (chk (decide (0 ≤ k14_c ∧ k14_c < (met9_b.length : Int))) ((R34_2 a25 a72 a73 N T34_0 T34_1 m (Sl34c p0 r2 at10_a i11_b l8_b met9_b r3 ((met9_b.getD k14_c.toNat (0 : Int)) == r3) (w64 (k14_c + (1 : Int))))))))
      (cond (!old13_c) (chk (decide (0 ≤ at10_a ∧ at10_a < (l8_b.length : Int))) (chk (small (0 + (l8_b.getD at10_a.toNat ([] : List Int)).length) 8) (chk (small ((([] : List Int) ++ (l8_b.getD at10_a.toNat ([] : List Int))).length + 1) 8) (chk (small (l8_b.length + 1) 24) (chk (small (met9_b.length + 1) 8) ((T34_1 (Sl34b p0 r2 at10_a (w64 (i11_b + (1 : Int))) (l8_b ++ ([(([] : List Int) ++ (l8_b.getD at10_a.toNat ([] : List Int))) ++ ([i11_b] : List Int)] : List (List Int))) (met9_b ++ ([r3] : List Int))))))))))
      ((T34_1 (Sl34b p0 r2 at10_a (w64 (i11_b + (1 : Int))) l8_b met9_b)))) := by kernel_rfl
theorem ql34c (a25 : (Int × List (List Int) × Unit) → Option (Int)) (a72 : (Int × List (List Int) × Unit) → (List Int) → Option (Int × Int)) (a73 : (Int × List (List Int) × Unit) → Int → Int → Option (Int)) (N : Nat) (p0 : Int × List (List Int) × Unit) (r2 : Int × Int) (at10_a : Int) (i11_b : Int) (l8_b : List (List Int)) (met9_b : List Int) (r3 : Int) (T34_0 : TS → Option (List Int × Int)) (T34_1 : TS → Option (List Int × Int)) : ∀ (m : Nat) (old13_c : Bool) (k14_c : Int), R34_2 a25 a72 a73 N T34_0 T34_1 m (Sl34c p0 r2 at10_a i11_b l8_b met9_b r3 old13_c k14_c) = l34c a25 a72 a73 N p0 r2 at10_a i11_b l8_b met9_b r3 (fun y0 y1 y2 => T34_1 (Sl34b p0 r2 at10_a y0 y1 y2)) m old13_c k14_c
        | 0, _, _ => rfl
        | m + 1, old13_c, k14_c => by rw [wl34c]; simp only [l34c, ql34c a25 a72 a73 N p0 r2 at10_a i11_b l8_b met9_b r3 T34_0 T34_1 m]
def l34b (a25 : (Int × List (List Int) × Unit) → Option (Int)) (a72 : (Int × List (List Int) × Unit) → (List Int) → Option (Int × Int)) (a73 : (Int × List (List Int) × Unit) → Int → Int → Option (Int)) (N : Nat) (p0 : Int × List (List Int) × Unit) (r2 : Int × Int) (at10_a : Int) (rec_l34a : Int → (List (List Int)) → (List Int) → Option (List Int × Int)) : Nat → Int → (List (List Int)) → (List Int) → Option (List Int × Int)
  | 0, _, _, _ => none
  | n + 1, i11_b, l8_b, met9_b => cond (decide (i11_b < (p0.2.1.length : Int))) (chk (decide (0 ≤ at10_a ∧ at10_a < (met9_b.length : Int))) ((a73 p0 (met9_b.getD at10_a.toNat (0 : Int)) i11_b).bind fun r3 =>
      (l34c a25 a72 a73 N p0 r2 at10_a i11_b l8_b met9_b r3 (fun y0 y1 y2 => (l34b a25 a72 a73 N p0 r2 at10_a rec_l34a n y0 y1 y2)) N false (0 : Int))))
      ((rec_l34a (w64 (at10_a + (1 : Int))) l8_b met9_b))
theorem wl34b (a25 : (Int × List (List Int) × Unit) → Option (Int)) (a72 : (Int × List (List Int) × Unit) → (List Int) → Option (Int × Int)) (a73 : (Int × List (List Int) × Unit) → Int → Int → Option (Int)) (N : Nat) (p0 : Int × List (List Int) × Unit) (r2 : Int × Int) (at10_a : Int) (T34_0 : TS → Option (List Int × Int)) (m : Nat) (i11_b : Int) (l8_b : List (List Int)) (met9_b : List Int) : R34_1 a25 a72 a73 N T34_0 (m + 1) (Sl34b p0 r2 at10_a i11_b l8_b met9_b) = cond (decide (i11_b < (p0.2.1.length : Int))) (chk (decide (0 ≤ at10_a ∧ at10_a < (met9_b.length : Int))) ((a73 p0 (met9_b.getD at10_a.toNat (0 : Int)) i11_b).bind fun r3 =>
      (R34_2 a25 a72 a73 N T34_0 (R34_1 a25 a72 a73 N T34_0 m) N (Sl34c p0 r2 at10_a i11_b l8_b met9_b r3 false (0 : Int)))))
      ((T34_0 (Sl34a p0 r2 (w64 (at10_a + (1 : Int))) l8_b met9_b))) := by kernel_rfl
theorem ql34b (a25 : (Int × List (List Int) × Unit) → Option (Int)) (a72 : (Int × List (List Int) × Unit) → (List Int) → Option (Int × Int)) (a73 : (Int × List (List Int) × Unit) → Int → Int → Option (Int)) (N : Nat) (p0 : Int × List (List Int) × Unit) (r2 : Int × Int) (at10_a : Int) (T34_0 : TS → Option (List Int × Int)) : ∀ (m : Nat) (i11_b : Int) (l8_b : List (List Int)) (met9_b : List Int), R34_1 a25 a72 a73 N T34_0 m (Sl34b p0 r2 at10_a i11_b l8_b met9_b) = l34b a25 a72 a73 N p0 r2 at10_a (fun y0 y1 y2 => T34_0 (Sl34a p0 r2 y0 y1 y2)) m i11_b l8_b met9_b
        | 0, _, _, _ => rfl
        | m + 1, i11_b, l8_b, met9_b => by rw [wl34b]; simp only [l34b, ql34c, ql34b a25 a72 a73 N p0 r2 at10_a T34_0 m]
def l34a (a25 : (Int × List (List Int) × Unit) → Option (Int)) (a72 : (Int × List (List Int) × Unit) → (List Int) → Option (Int × Int)) (a73 : (Int × List (List Int) × Unit) → Int → Int → Option (Int)) (N : Nat) (p0 : Int × List (List Int) × Unit) (r2 : Int × Int) : Nat → Int → (List (List Int)) → (List Int) → Option (List Int × Int)
  | 0, _, _, _ => none
  | n + 1, at10_a, l8_a, met9_a => cond (decide (at10_a < (l8_a.length : Int))) (chk (decide (0 ≤ at10_a ∧ at10_a < (met9_a.length : Int))) (cond ((bAnd .i64 (met9_a.getD at10_a.toNat (0 : Int)) r2.1) == r2.1) (chk (decide (0 ≤ at10_a ∧ at10_a < (l8_a.length : Int))) (some (l8_a.getD at10_a.toNat ([] : List Int), (0 : Int))))
      ((l34b a25 a72 a73 N p0 r2 at10_a (fun y0 y1 y2 => (l34a a25 a72 a73 N p0 r2 n y0 y1 y2)) N (0 : Int) l8_a met9_a))))
      (some (([] : List Int), (14 : Int)))
theorem wl34a (a25 : (Int × List (List Int) × Unit) → Option (Int)) (a72 : (Int × List (List Int) × Unit) → (List Int) → Option (Int × Int)) (a73 : (Int × List (List Int) × Unit) → Int → Int → Option (Int)) (N : Nat) (p0 : Int × List (List Int) × Unit) (r2 : Int × Int) (m : Nat) (at10_a : Int) (l8_a : List (List Int)) (met9_a : List Int) : R34_0 a25 a72 a73 N (m + 1) (Sl34a p0 r2 at10_a l8_a met9_a) = cond (decide (at10_a < (l8_a.length : Int))) (chk (decide (0 ≤ at10_a ∧ at10_a < (met9_a.length : Int))) (cond ((bAnd .i64 (met9_a.getD at10_a.toNat (0 : Int)) r2.1) == r2.1) (chk (decide (0 ≤ at10_a ∧ at10_a < (l8_a.length : Int))) (some (l8_a.getD at10_a.toNat ([] : List Int), (0 : Int))))
      ((R34_1 a25 a72 a73 N (R34_0 a25 a72 a73 N m) N (Sl34b p0 r2 at10_a (0 : Int) l8_a met9_a)))))
      (some (([] : List Int), (14 : Int))) := by kernel_rfl
theorem ql34a (a25 : (Int × List (List Int) × Unit) → Option (Int)) (a72 : (Int × List (List Int) × Unit) → (List Int) → Option (Int × Int)) (a73 : (Int × List (List Int) × Unit) → Int → Int → Option (Int)) (N : Nat) (p0 : Int × List (List Int) × Unit) (r2 : Int × Int) : ∀ (m : Nat) (at10_a : Int) (l8_a : List (List Int)) (met9_a : List Int), R34_0 a25 a72 a73 N m (Sl34a p0 r2 at10_a l8_a met9_a) = l34a a25 a72 a73 N p0 r2 m at10_a l8_a met9_a
        | 0, _, _, _ => rfl
        | m + 1, at10_a, l8_a, met9_a => by rw [wl34a]; simp only [l34a, ql34b, ql34a a25 a72 a73 N p0 r2 m]
def m34 (a25 : (Int × List (List Int) × Unit) → Option (Int)) (a72 : (Int × List (List Int) × Unit) → (List Int) → Option (Int × Int)) (a73 : (Int × List (List Int) × Unit) → Int → Int → Option (Int)) (N : Nat) (p0 : Int × List (List Int) × Unit) (sketch1 : List Int) : Option (List Int × Int) :=
      (a25 p0).bind fun r1 =>
      cond (r1 != (0 : Int)) (some (([] : List Int), r1))
      ((a72 p0 sketch1).bind fun r2 =>
      cond (r2.2 != (0 : Int)) (some (([] : List Int), r2.2))
      ((l34a a25 a72 a73 N p0 r2 N (0 : Int) ([([] : List Int)] : List (List Int)) ([(1 : Int)] : List Int))))
theorem wm34 (a25 : (Int × List (List Int) × Unit) → Option (Int)) (a72 : (Int × List (List Int) × Unit) → (List Int) → Option (Int × Int)) (a73 : (Int × List (List Int) × Unit) → Int → Int → Option (Int)) (N : Nat) (p0 : Int × List (List Int) × Unit) (sketch1 : List Int) : callF (E34 a25 a72 a73) lv34 N en34 c34 (resOf Try.f34) 94 [.dv (.pair (.int .i64) (.pair (.sl (.sl (.int .i64))) (.unit))) p0, .dv (.sl (.int .i64)) sketch1] [] dec34 = (a25 p0).bind fun r1 =>
      cond (r1 != (0 : Int)) (some (([] : List Int), r1))
      ((a72 p0 sketch1).bind fun r2 =>
      cond (r2.2 != (0 : Int)) (some (([] : List Int), r2.2))
      ((R34_0 a25 a72 a73 N N (Sl34a p0 r2 (0 : Int) ([([] : List Int)] : List (List Int)) ([(1 : Int)] : List Int))))) := by kernel_rfl
theorem k34 (a25 : (Int × List (List Int) × Unit) → Option (Int)) (a72 : (Int × List (List Int) × Unit) → (List Int) → Option (Int × Int)) (a73 : (Int × List (List Int) × Unit) → Int → Int → Option (Int)) (N : Nat) (p0 : Int × List (List Int) × Unit) (sketch1 : List Int) : callF (E34 a25 a72 a73) lv34 N en34 c34 (resOf Try.f34) 94 [.dv (.pair (.int .i64) (.pair (.sl (.sl (.int .i64))) (.unit))) p0, .dv (.sl (.int .i64)) sketch1] [] dec34 = m34 a25 a72 a73 N p0 sketch1 := by rw [wm34]; simp only [m34, ql34a]
theorem ok34 (a25 : (Int × List (List Int) × Unit) → Option (Int)) (a72 : (Int × List (List Int) × Unit) → (List Int) → Option (Int × Int)) (a73 : (Int × List (List Int) × Unit) → Int → Int → Option (Int)) (h25 : FnOk Try.prog 25 (F25 a25)) (h72 : FnOk Try.prog 72 (F72 a72)) (h73 : FnOk Try.prog 73 (F73 a73)) (a : (Int × List (List Int) × Unit) → (List Int) → Option (List Int × Int)) (h : ∀ p0 sketch1 r, a p0 sketch1 = some r → (∃ N, m34 a25 a72 a73 N p0 sketch1 = some r)) : FnOk Try.prog 34 (F34 a) := by
  intro args Of x hx
  simp only [F34] at hx
  split at hx
  · rename_i p0 sketch1
    obtain ⟨N, hN⟩ := h _ _ _ hx
    refine lifted (L := [(25, F25 a25), (72, F72 a72), (73, F73 a73)]) (rc := nrc) (fz := nfz) (fn := Try.f34) (by kernel_rfl) (by kernel_rfl) (by kernel_rfl) (by kernel_rfl) rfl ?_ ((k34 a25 a72 a73 N _ _).trans hN) ?_
    · intro p hp; simp only [List.mem_cons, List.not_mem_nil, or_false] at hp; rcases hp with rfl | rfl | rfl
      · exact h25
      · exact h72
      · exact h73
    · intro l o hd
      simp only [dec34] at hd
      split at hd
      · obtain rfl := Option.some.inj hd; exact ⟨rfl, rfl⟩
      · cases hd
  · cases hx
def E36 (a25 : (Int × List (List Int) × Unit) → Option (Int)) (a34 : (Int × List (List Int) × Unit) → (List Int) → Option (List Int × Int)) (a66 : Int → Int → Int → Option (Bool)) : Env := mkE TI TY [(25, F25 a25), (34, F34 a34), (66, F66 a66)] nrc nfz
noncomputable def c36 : Code := bodyOf Try.f36
def lv36 : Nat → Option Norm := norms []
def en36 : End := ⟨[], ⟨[33, 34], [], [], []⟩⟩
def dec36 (l : List TV) (o : List (Nat × TO)) : Option (Int × Int) := match l, o with | [.dv (.int .i64) x0, .dv (.int .i64) x1], [] => some (x0, x1) | _, _ => none
def m36 (a25 : (Int × List (List Int) × Unit) → Option (Int)) (a34 : (Int × List (List Int) × Unit) → (List Int) → Option (List Int × Int)) (a66 : Int → Int → Int → Option (Bool)) (N : Nat) (p0 : Int × List (List Int) × Unit) (colour1 : Int) : Option (Int × Int) :=
      (a25 p0).bind fun r1 =>
      cond (r1 == (0 : Int)) ((a66 colour1 (0 : Int) (w64 (p0.1 - (1 : Int)))).bind fun r2 =>
      cond (!r2) (some ((0 : Int), (4 : Int)))
      (cond (r1 != (0 : Int)) (some ((0 : Int), r1))
      ((a34 p0 ([colour1] : List Int)).bind fun r3 =>
      some ((r3.1.length : Int), r3.2))))
      (cond (r1 != (0 : Int)) (some ((0 : Int), r1))
      ((a34 p0 ([colour1] : List Int)).bind fun r4 =>
      some ((r4.1.length : Int), r4.2)))
theorem k36 (a25 : (Int × List (List Int) × Unit) → Option (Int)) (a34 : (Int × List (List Int) × Unit) → (List Int) → Option (List Int × Int)) (a66 : Int → Int → Int → Option (Bool)) (N : Nat) (p0 : Int × List (List Int) × Unit) (colour1 : Int) : callF (E36 a25 a34 a66) lv36 N en36 c36 (resOf Try.f36) 31 [.dv (.pair (.int .i64) (.pair (.sl (.sl (.int .i64))) (.unit))) p0, .dv (.int .i64) colour1] [] dec36 = m36 a25 a34 a66 N p0 colour1 := by kernel_rfl
theorem ok36 (a25 : (Int × List (List Int) × Unit) → Option (Int)) (a34 : (Int × List (List Int) × Unit) → (List Int) → Option (List Int × Int)) (a66 : Int → Int → Int → Option (Bool)) (h25 : FnOk Try.prog 25 (F25 a25)) (h34 : FnOk Try.prog 34 (F34 a34)) (h66 : FnOk Try.prog 66 (F66 a66)) (a : (Int × List (List Int) × Unit) → Int → Option (Int × Int)) (h : ∀ p0 colour1 r, a p0 colour1 = some r → (∃ N, m36 a25 a34 a66 N p0 colour1 = some r)) : FnOk Try.prog 36 (F36 a) := by
  intro args Of x hx
  simp only [F36] at hx
  split at hx
  · rename_i p0 colour1
    obtain ⟨N, hN⟩ := h _ _ _ hx
    refine lifted (L := [(25, F25 a25), (34, F34 a34), (66, F66 a66)]) (rc := nrc) (fz := nfz) (fn := Try.f36) (by kernel_rfl) (by kernel_rfl) (by kernel_rfl) (by kernel_rfl) rfl ?_ ((k36 a25 a34 a66 N _ _).trans hN) ?_
    · intro p hp; simp only [List.mem_cons, List.not_mem_nil, or_false] at hp; rcases hp with rfl | rfl | rfl
      · exact h25
      · exact h34
      · exact h66
    · intro l o hd
      simp only [dec36] at hd
      split at hd
      · obtain rfl := Option.some.inj hd; exact ⟨rfl, rfl⟩
      · cases hd
  · cases hx
def E38 (a58 : (Int × List (List Int) × Unit) → (List Int) → Int → Option (Int)) (a60 : (Int × List (List Int) × Unit) → (List Int) → Option (Int)) (a72 : (Int × List (List Int) × Unit) → (List Int) → Option (Int × Int)) : Env := mkE TI TY [(58, F58 a58), (60, F60 a60), (72, F72 a72)] nrc nfz
noncomputable def c38 : Code := bodyOf Try.f38
def lv38 : Nat → Option Norm := norms []
def en38 : End := ⟨[], ⟨[31], [], [], []⟩⟩
def dec38 (l : List TV) (o : List (Nat × TO)) : Option (Int) := match l, o with | [.dv (.int .i64) x0], [] => some (x0) | _, _ => none
def m38 (a58 : (Int × List (List Int) × Unit) → (List Int) → Int → Option (Int)) (a60 : (Int × List (List Int) × Unit) → (List Int) → Option (Int)) (a72 : (Int × List (List Int) × Unit) → (List Int) → Option (Int × Int)) (N : Nat) (p0 : Int × List (List Int) × Unit) (sketch1 : List Int) (l2 : List Int) : Option (Int) :=
      (a58 p0 l2 (12 : Int)).bind fun r1 =>
      cond (r1 != (0 : Int)) (some r1)
      ((a72 p0 sketch1).bind fun r2 =>
      cond (r2.2 != (0 : Int)) (some r2.2)
      ((a60 p0 l2).bind fun r3 =>
      cond ((bAnd .i64 r3 r2.1) != r2.1) (some (13 : Int))
      (some (0 : Int))))
theorem k38 (a58 : (Int × List (List Int) × Unit) → (List Int) → Int → Option (Int)) (a60 : (Int × List (List Int) × Unit) → (List Int) → Option (Int)) (a72 : (Int × List (List Int) × Unit) → (List Int) → Option (Int × Int)) (N : Nat) (p0 : Int × List (List Int) × Unit) (sketch1 : List Int) (l2 : List Int) : callF (E38 a58 a60 a72) lv38 N en38 c38 (resOf Try.f38) 28 [.dv (.pair (.int .i64) (.pair (.sl (.sl (.int .i64))) (.unit))) p0, .dv (.sl (.int .i64)) sketch1, .dv (.sl (.int .i64)) l2] [] dec38 = m38 a58 a60 a72 N p0 sketch1 l2 := by kernel_rfl
theorem ok38 (a58 : (Int × List (List Int) × Unit) → (List Int) → Int → Option (Int)) (a60 : (Int × List (List Int) × Unit) → (List Int) → Option (Int)) (a72 : (Int × List (List Int) × Unit) → (List Int) → Option (Int × Int)) (h58 : FnOk Try.prog 58 (F58 a58)) (h60 : FnOk Try.prog 60 (F60 a60)) (h72 : FnOk Try.prog 72 (F72 a72)) (a : (Int × List (List Int) × Unit) → (List Int) → (List Int) → Option (Int)) (h : ∀ p0 sketch1 l2 r, a p0 sketch1 l2 = some r → (∃ N, m38 a58 a60 a72 N p0 sketch1 l2 = some r)) : FnOk Try.prog 38 (F38 a) := by
  intro args Of x hx
  simp only [F38] at hx
  split at hx
  · rename_i p0 sketch1 l2
    obtain ⟨N, hN⟩ := h _ _ _ _ hx
    refine lifted (L := [(58, F58 a58), (60, F60 a60), (72, F72 a72)]) (rc := nrc) (fz := nfz) (fn := Try.f38) (by kernel_rfl) (by kernel_rfl) (by kernel_rfl) (by kernel_rfl) rfl ?_ ((k38 a58 a60 a72 N _ _ _).trans hN) ?_
    · intro p hp; simp only [List.mem_cons, List.not_mem_nil, or_false] at hp; rcases hp with rfl | rfl | rfl
      · exact h58
      · exact h60
      · exact h72
    · intro l o hd
      simp only [dec38] at hd
      split at hd
      · obtain rfl := Option.some.inj hd; exact ⟨rfl, rfl⟩
      · cases hd
  · cases hx
def E40 (a58 : (Int × List (List Int) × Unit) → (List Int) → Int → Option (Int)) (a59 : Int → Option (List Int)) (a60 : (Int × List (List Int) × Unit) → (List Int) → Option (Int)) : Env := mkE TI TY [(58, F58 a58), (59, F59 a59), (60, F60 a60)] nrc nfz
noncomputable def c40 : Code := bodyOf Try.f40
def nm40_0 : Norm := ⟨[2, 8, 9], [2, 26], [], []⟩
def nm40_1 : Norm := ⟨[2, 8, 9, 10], [2, 26], [], []⟩
def nm40_2 : Norm := ⟨[2, 8, 12], [2, 26], [(.slot 11, 1011, .int .i64)], []⟩
def nm40_3 : Norm := ⟨[2, 8, 11, 12, 13], [2, 26, 1011], [], []⟩
def nm40_4 : Norm := ⟨[2, 8, 11, 12, 13, 14], [2, 26, 1011], [], []⟩
def nm40_5 : Norm := ⟨[2, 8, 11, 12, 15, 16], [2, 26, 1011], [], []⟩
def lv40 : Nat → Option Norm := norms [(6, nm40_0), (9, nm40_1), (13, nm40_2), (14, nm40_3), (19, nm40_4), (23, nm40_5)]
def en40 : End := ⟨[(163, .sl (.int .i64))], ⟨[163, 164, 165], [], [], []⟩⟩
def dec40 (l : List TV) (o : List (Nat × TO)) : Option (List Int × Int × Int) := match l, o with | [.dv (.sl (.int .i64)) x0, .dv (.int .i64) x1, .dv (.int .i64) x2], [] => some (x0, x1, x2) | _, _ => none
noncomputable def K40_0 (a58 : (Int × List (List Int) × Unit) → (List Int) → Int → Option (Int)) (a59 : Int → Option (List Int)) (a60 : (Int × List (List Int) × Unit) → (List Int) → Option (Int)) (N : Nat) : Kont (List Int × Int × Int) := kont (E40 a58 a59 a60) lv40 N c40 [1, 1, 1, 1, 0, 1, 0] (fin TI en40 (resOf Try.f40) dec40)
noncomputable def R40_0 (a58 : (Int × List (List Int) × Unit) → (List Int) → Int → Option (Int)) (a59 : Int → Option (List Int)) (a60 : (Int × List (List Int) × Unit) → (List Int) → Option (Int)) (N : Nat) (m : Nat) : TS → Option (List Int × Int × Int) := loopK (den (E40 a58 a59 a60) lv40 N (sub c40 [1, 1, 1, 1, 0, 1, 0, 0])) (TS.norm nm40_0) (K40_0 a58 a59 a60 N) m
noncomputable def K40_1 (a58 : (Int × List (List Int) × Unit) → (List Int) → Int → Option (Int)) (a59 : Int → Option (List Int)) (a60 : (Int × List (List Int) × Unit) → (List Int) → Option (Int)) (N : Nat) (T40_0 : TS → Option (List Int × Int × Int)) : Kont (List Int × Int × Int) := kont (E40 a58 a59 a60) lv40 N (sub c40 [1, 1, 1, 1, 0, 1, 0, 0]) [1, 0, 0, 1, 0] (kloop (TS.norm nm40_0) (K40_0 a58 a59 a60 N) T40_0)
noncomputable def R40_1 (a58 : (Int × List (List Int) × Unit) → (List Int) → Int → Option (Int)) (a59 : Int → Option (List Int)) (a60 : (Int × List (List Int) × Unit) → (List Int) → Option (Int)) (N : Nat) (T40_0 : TS → Option (List Int × Int × Int)) (m : Nat) : TS → Option (List Int × Int × Int) := loopK (den (E40 a58 a59 a60) lv40 N (sub c40 [1, 1, 1, 1, 0, 1, 0, 0, 1, 0, 0, 1, 0, 0])) (TS.norm nm40_1) (K40_1 a58 a59 a60 N T40_0) m
noncomputable def K40_2 (a58 : (Int × List (List Int) × Unit) → (List Int) → Int → Option (Int)) (a59 : Int → Option (List Int)) (a60 : (Int × List (List Int) × Unit) → (List Int) → Option (Int)) (N : Nat) : Kont (List Int × Int × Int) := kont (E40 a58 a59 a60) lv40 N c40 [1, 1, 1, 1, 1, 1, 0] (fin TI en40 (resOf Try.f40) dec40)
noncomputable def R40_2 (a58 : (Int × List (List Int) × Unit) → (List Int) → Int → Option (Int)) (a59 : Int → Option (List Int)) (a60 : (Int × List (List Int) × Unit) → (List Int) → Option (Int)) (N : Nat) (m : Nat) : TS → Option (List Int × Int × Int) := loopK (den (E40 a58 a59 a60) lv40 N (sub c40 [1, 1, 1, 1, 1, 1, 0, 0])) (TS.norm nm40_2) (K40_2 a58 a59 a60 N) m
noncomputable def K40_3 (a58 : (Int × List (List Int) × Unit) → (List Int) → Int → Option (Int)) (a59 : Int → Option (List Int)) (a60 : (Int × List (List Int) × Unit) → (List Int) → Option (Int)) (N : Nat) (T40_2 : TS → Option (List Int × Int × Int)) : Kont (List Int × Int × Int) := kont (E40 a58 a59 a60) lv40 N (sub c40 [1, 1, 1, 1, 1, 1, 0, 0]) [0, 1, 0, 0] (kloop (TS.norm nm40_2) (K40_2 a58 a59 a60 N) T40_2)
noncomputable def R40_3 (a58 : (Int × List (List Int) × Unit) → (List Int) → Int → Option (Int)) (a59 : Int → Option (List Int)) (a60 : (Int × List (List Int) × Unit) → (List Int) → Option (Int)) (N : Nat) (T40_2 : TS → Option (List Int × Int × Int)) (m : Nat) : TS → Option (List Int × Int × Int) := loopK (den (E40 a58 a59 a60) lv40 N (sub c40 [1, 1, 1, 1, 1, 1, 0, 0, 0, 1, 0, 0, 0])) (TS.norm nm40_3) (K40_3 a58 a59 a60 N T40_2) m
noncomputable def K40_4 (a58 : (Int × List (List Int) × Unit) → (List Int) → Int → Option (Int)) (a59 : Int → Option (List Int)) (a60 : (Int × List (List Int) × Unit) → (List Int) → Option (Int)) (N : Nat) (T40_2 : TS → Option (List Int × Int × Int)) : Kont (List Int × Int × Int) := kont (E40 a58 a59 a60) lv40 N (sub c40 [1, 1, 1, 1, 1, 1, 0, 0]) [0, 1, 1, 1, 1, 0, 0] (kloop (TS.norm nm40_2) (K40_2 a58 a59 a60 N) T40_2)
noncomputable def R40_4 (a58 : (Int × List (List Int) × Unit) → (List Int) → Int → Option (Int)) (a59 : Int → Option (List Int)) (a60 : (Int × List (List Int) × Unit) → (List Int) → Option (Int)) (N : Nat) (T40_2 : TS → Option (List Int × Int × Int)) (m : Nat) : TS → Option (List Int × Int × Int) := loopK (den (E40 a58 a59 a60) lv40 N (sub c40 [1, 1, 1, 1, 1, 1, 0, 0, 0, 1, 1, 1, 1, 0, 0, 0])) (TS.norm nm40_4) (K40_4 a58 a59 a60 N T40_2) m
noncomputable def K40_5 (a58 : (Int × List (List Int) × Unit) → (List Int) → Int → Option (Int)) (a59 : Int → Option (List Int)) (a60 : (Int × List (List Int) × Unit) → (List Int) → Option (Int)) (N : Nat) (T40_2 : TS → Option (List Int × Int × Int)) : Kont (List Int × Int × Int) := kont (E40 a58 a59 a60) lv40 N (sub c40 [1, 1, 1, 1, 1, 1, 0, 0]) [0, 1, 1, 1, 1, 1, 1, 1, 0, 0] (kloop (TS.norm nm40_2) (K40_2 a58 a59 a60 N) T40_2)
noncomputable def R40_5 (a58 : (Int × List (List Int) × Unit) → (List Int) → Int → Option (Int)) (a59 : Int → Option (List Int)) (a60 : (Int × List (List Int) × Unit) → (List Int) → Option (Int)) (N : Nat) (T40_2 : TS → Option (List Int × Int × Int)) (m : Nat) : TS → Option (List Int × Int × Int) := loopK (den (E40 a58 a59 a60) lv40 N (sub c40 [1, 1, 1, 1, 1, 1, 0, 0, 0, 1, 1, 1, 1, 1, 1, 1, 0, 0, 0])) (TS.norm nm40_5) (K40_5 a58 a59 a60 N T40_2) m
def Sl40b (p0 : Int × List (List Int) × Unit) (i9_a : Int) (k10_b : Int) (o26_b : List Int) : TS := ⟨slots 163 [(2, .ptr 2 0 []), (8, .row 26), (9, .dv (.int .i64) i9_a), (10, .dv (.int .i64) k10_b)], [(2, .row (.pair (.int .i64) (.pair (.sl (.sl (.int .i64))) (.unit))) ([p0] : List (Int × List (List Int) × Unit))), (26, .row (.int .i64) o26_b)]⟩
def Sl40f (p0 : Int × List (List Int) × Unit) (most12_c : Int) (best11_c : List Int) (a15_f : Int) (b16_f : Int) (o26_f : List Int) : TS := ⟨slots 163 [(2, .ptr 2 0 []), (8, .row 26), (11, .row 1011), (12, .dv (.int .i64) most12_c), (15, .dv (.int .i64) a15_f), (16, .dv (.int .i64) b16_f)], [(2, .row (.pair (.int .i64) (.pair (.sl (.sl (.int .i64))) (.unit))) ([p0] : List (Int × List (List Int) × Unit))), (26, .row (.int .i64) o26_f), (1011, .row (.int .i64) best11_c)]⟩
def Sl40e (p0 : Int × List (List Int) × Unit) (most12_c : Int) (best11_c : List Int) (o26_c : List Int) (i13_d : Int) (k14_e : Int) : TS := ⟨slots 163 [(2, .ptr 2 0 []), (8, .row 26), (11, .row 1011), (12, .dv (.int .i64) most12_c), (13, .dv (.int .i64) i13_d), (14, .dv (.int .i64) k14_e)], [(2, .row (.pair (.int .i64) (.pair (.sl (.sl (.int .i64))) (.unit))) ([p0] : List (Int × List (List Int) × Unit))), (26, .row (.int .i64) o26_c), (1011, .row (.int .i64) best11_c)]⟩
def Sl40d (p0 : Int × List (List Int) × Unit) (most12_c : Int) (best11_c : List Int) (o26_c : List Int) (i13_d : Int) : TS := ⟨slots 163 [(2, .ptr 2 0 []), (8, .row 26), (11, .row 1011), (12, .dv (.int .i64) most12_c), (13, .dv (.int .i64) i13_d)], [(2, .row (.pair (.int .i64) (.pair (.sl (.sl (.int .i64))) (.unit))) ([p0] : List (Int × List (List Int) × Unit))), (26, .row (.int .i64) o26_c), (1011, .row (.int .i64) best11_c)]⟩
def Sl40c (p0 : Int × List (List Int) × Unit) (most12_c : Int) (best11_c : List Int) (o26_c : List Int) : TS := ⟨slots 163 [(2, .ptr 2 0 []), (8, .row 26), (11, .row 1011), (12, .dv (.int .i64) most12_c)], [(1011, .row (.int .i64) best11_c), (2, .row (.pair (.int .i64) (.pair (.sl (.sl (.int .i64))) (.unit))) ([p0] : List (Int × List (List Int) × Unit))), (26, .row (.int .i64) o26_c)]⟩
def Sl40a (p0 : Int × List (List Int) × Unit) (i9_a : Int) (o26_a : List Int) : TS := ⟨slots 163 [(2, .ptr 2 0 []), (8, .row 26), (9, .dv (.int .i64) i9_a)], [(2, .row (.pair (.int .i64) (.pair (.sl (.sl (.int .i64))) (.unit))) ([p0] : List (Int × List (List Int) × Unit))), (26, .row (.int .i64) o26_a)]⟩
def l40b (a58 : (Int × List (List Int) × Unit) → (List Int) → Int → Option (Int)) (a59 : Int → Option (List Int)) (a60 : (Int × List (List Int) × Unit) → (List Int) → Option (Int)) (N : Nat) (p0 : Int × List (List Int) × Unit) (i9_a : Int) (rec_l40a : Int → (List Int) → Option (List Int × Int × Int)) : Nat → Int → (List Int) → Option (List Int × Int × Int)
  | 0, _, _ => none
  | n + 1, k10_b, o26_b => cond (decide (k10_b > (0 : Int))) (chk (decide (0 ≤ k10_b ∧ k10_b < (o26_b.length : Int))) (chk (decide (0 ≤ w64 (k10_b - (1 : Int)) ∧ w64 (k10_b - (1 : Int)) < (o26_b.length : Int))) (cond (decide ((o26_b.getD k10_b.toNat (0 : Int)) < (o26_b.getD ((w64 (k10_b - (1 : Int))).toNat) (0 : Int)))) (chk (decide (0 ≤ w64 (k10_b - (1 : Int)) ∧ w64 (k10_b - (1 : Int)) < (o26_b.length : Int))) (chk (decide (0 ≤ k10_b ∧ k10_b < (o26_b.length : Int))) (chk (decide (0 ≤ k10_b ∧ k10_b < (o26_b.length : Int))) (chk (decide (0 ≤ w64 (k10_b - (1 : Int)) ∧ w64 (k10_b - (1 : Int)) < ((o26_b.set k10_b.toNat (o26_b.getD ((w64 (k10_b - (1 : Int))).toNat) (0 : Int))).length : Int))) ((l40b a58 a59 a60 N p0 i9_a rec_l40a n (w64 (k10_b - (1 : Int))) ((o26_b.set k10_b.toNat (o26_b.getD ((w64 (k10_b - (1 : Int))).toNat) (0 : Int))).set ((w64 (k10_b - (1 : Int))).toNat) (o26_b.getD k10_b.toNat (0 : Int)))))))))
      ((rec_l40a (w64 (i9_a + (1 : Int))) o26_b)))))
      ((rec_l40a (w64 (i9_a + (1 : Int))) o26_b))
theorem wl40b (a58 : (Int × List (List Int) × Unit) → (List Int) → Int → Option (Int)) (a59 : Int → Option (List Int)) (a60 : (Int × List (List Int) × Unit) → (List Int) → Option (Int)) (N : Nat) (p0 : Int × List (List Int) × Unit) (i9_a : Int) (T40_0 : TS → Option (List Int × Int × Int)) (m : Nat) (k10_b : Int) (o26_b : List Int) : R40_1 a58 a59 a60 N T40_0 (m + 1) (Sl40b p0 i9_a k10_b o26_b) = cond (decide (k10_b > (0 : Int))) (chk (decide (0 ≤ k10_b ∧ k10_b < (o26_b.length : Int))) (chk (decide (0 ≤ w64 (k10_b - (1 : Int)) ∧ w64 (k10_b - (1 : Int)) < (o26_b.length : Int))) (cond (decide ((o26_b.getD k10_b.toNat (0 : Int)) < (o26_b.getD ((w64 (k10_b - (1 : Int))).toNat) (0 : Int)))) (chk (decide (0 ≤ w64 (k10_b - (1 : Int)) ∧ w64 (k10_b - (1 : Int)) < (o26_b.length : Int))) (chk (decide (0 ≤ k10_b ∧ k10_b < (o26_b.length : Int))) (chk (decide (0 ≤ k10_b ∧ k10_b < (o26_b.length : Int))) (chk (decide (0 ≤ w64 (k10_b - (1 : Int)) ∧ w64 (k10_b - (1 : Int)) < ((o26_b.set k10_b.toNat (o26_b.getD ((w64 (k10_b - (1 : Int))).toNat) (0 : Int))).length : Int))) ((R40_1 a58 a59 a60 N T40_0 m (Sl40b p0 i9_a (w64 (k10_b - (1 : Int))) ((o26_b.set k10_b.toNat (o26_b.getD ((w64 (k10_b - (1 : Int))).toNat) (0 : Int))).set ((w64 (k10_b - (1 : Int))).toNat) (o26_b.getD k10_b.toNat (0 : Int))))))))))
      ((T40_0 (Sl40a p0 (w64 (i9_a + (1 : Int))) o26_b))))))
      ((T40_0 (Sl40a p0 (w64 (i9_a + (1 : Int))) o26_b))) := by kernel_rfl
theorem ql40b (a58 : (Int × List (List Int) × Unit) → (List Int) → Int → Option (Int)) (a59 : Int → Option (List Int)) (a60 : (Int × List (List Int) × Unit) → (List Int) → Option (Int)) (N : Nat) (p0 : Int × List (List Int) × Unit) (i9_a : Int) (T40_0 : TS → Option (List Int × Int × Int)) : ∀ (m : Nat) (k10_b : Int) (o26_b : List Int), R40_1 a58 a59 a60 N T40_0 m (Sl40b p0 i9_a k10_b o26_b) = l40b a58 a59 a60 N p0 i9_a (fun y0 y1 => T40_0 (Sl40a p0 y0 y1)) m k10_b o26_b
        | 0, _, _ => rfl
        | m + 1, k10_b, o26_b => by rw [wl40b]; simp only [l40b, ql40b a58 a59 a60 N p0 i9_a T40_0 m]
def l40f (a58 : (Int × List (List Int) × Unit) → (List Int) → Int → Option (Int)) (a59 : Int → Option (List Int)) (a60 : (Int × List (List Int) × Unit) → (List Int) → Option (Int)) (N : Nat) (p0 : Int × List (List Int) × Unit) (most12_c : Int) (best11_c : List Int) (rec_l40c : Int → (List Int) → (List Int) → Option (List Int × Int × Int)) : Nat → Int → Int → (List Int) → Option (List Int × Int × Int)
  | 0, _, _, _ => none
  | n + 1, a15_f, b16_f, o26_f => cond (decide (a15_f < b16_f)) (chk (decide (0 ≤ b16_f ∧ b16_f < (o26_f.length : Int))) (chk (decide (0 ≤ a15_f ∧ a15_f < (o26_f.length : Int))) (chk (decide (0 ≤ a15_f ∧ a15_f < (o26_f.length : Int))) (chk (decide (0 ≤ b16_f ∧ b16_f < ((o26_f.set a15_f.toNat (o26_f.getD b16_f.toNat (0 : Int))).length : Int))) ((l40f a58 a59 a60 N p0 most12_c best11_c rec_l40c n (w64 (a15_f + (1 : Int))) (w64 (b16_f - (1 : Int))) ((o26_f.set a15_f.toNat (o26_f.getD b16_f.toNat (0 : Int))).set b16_f.toNat (o26_f.getD a15_f.toNat (0 : Int)))))))))
      ((a60 p0 o26_f).bind fun r4 =>
      (a59 r4).bind fun r5 =>
      cond (decide ((r5.length : Int) > most12_c)) (chk (small (0 + o26_f.length) 8) ((rec_l40c (r5.length : Int) (([] : List Int) ++ o26_f) o26_f)))
      ((rec_l40c most12_c best11_c o26_f)))
theorem wl40f (a58 : (Int × List (List Int) × Unit) → (List Int) → Int → Option (Int)) (a59 : Int → Option (List Int)) (a60 : (Int × List (List Int) × Unit) → (List Int) → Option (Int)) (N : Nat) (p0 : Int × List (List Int) × Unit) (most12_c : Int) (best11_c : List Int) (T40_2 : TS → Option (List Int × Int × Int)) (m : Nat) (a15_f : Int) (b16_f : Int) (o26_f : List Int) : R40_5 a58 a59 a60 N T40_2 (m + 1) (Sl40f p0 most12_c best11_c a15_f b16_f o26_f) = cond (decide (a15_f < b16_f)) (chk (decide (0 ≤ b16_f ∧ b16_f < (o26_f.length : Int))) (chk (decide (0 ≤ a15_f ∧ a15_f < (o26_f.length : Int))) (chk (decide (0 ≤ a15_f ∧ a15_f < (o26_f.length : Int))) (chk (decide (0 ≤ b16_f ∧ b16_f < ((o26_f.set a15_f.toNat (o26_f.getD b16_f.toNat (0 : Int))).length : Int))) ((R40_5 a58 a59 a60 N T40_2 m (Sl40f p0 most12_c best11_c (w64 (a15_f + (1 : Int))) (w64 (b16_f - (1 : Int))) ((o26_f.set a15_f.toNat (o26_f.getD b16_f.toNat (0 : Int))).set b16_f.toNat (o26_f.getD a15_f.toNat (0 : Int))))))))))
      ((a60 p0 o26_f).bind fun r4 =>
      (a59 r4).bind fun r5 =>
      cond (decide ((r5.length : Int) > most12_c)) (chk (small (0 + o26_f.length) 8) ((T40_2 (Sl40c p0 (r5.length : Int) (([] : List Int) ++ o26_f) o26_f))))
      ((T40_2 (Sl40c p0 most12_c best11_c o26_f)))) := by kernel_rfl
theorem ql40f (a58 : (Int × List (List Int) × Unit) → (List Int) → Int → Option (Int)) (a59 : Int → Option (List Int)) (a60 : (Int × List (List Int) × Unit) → (List Int) → Option (Int)) (N : Nat) (p0 : Int × List (List Int) × Unit) (most12_c : Int) (best11_c : List Int) (T40_2 : TS → Option (List Int × Int × Int)) : ∀ (m : Nat) (a15_f : Int) (b16_f : Int) (o26_f : List Int), R40_5 a58 a59 a60 N T40_2 m (Sl40f p0 most12_c best11_c a15_f b16_f o26_f) = l40f a58 a59 a60 N p0 most12_c best11_c (fun y0 y1 y2 => T40_2 (Sl40c p0 y0 y1 y2)) m a15_f b16_f o26_f
        | 0, _, _, _ => rfl
        | m + 1, a15_f, b16_f, o26_f => by rw [wl40f]; simp only [l40f, ql40f a58 a59 a60 N p0 most12_c best11_c T40_2 m]
def l40e (a58 : (Int × List (List Int) × Unit) → (List Int) → Int → Option (Int)) (a59 : Int → Option (List Int)) (a60 : (Int × List (List Int) × Unit) → (List Int) → Option (Int)) (N : Nat) (p0 : Int × List (List Int) × Unit) (most12_c : Int) (best11_c : List Int) (o26_c : List Int) (i13_d : Int) (rec_l40c : Int → (List Int) → (List Int) → Option (List Int × Int × Int)) : Nat → Int → Option (List Int × Int × Int)
  | 0, _ => none
  | n + 1, k14_e => chk (decide (0 ≤ k14_e ∧ k14_e < (o26_c.length : Int))) (chk (decide (0 ≤ i13_d ∧ i13_d < (o26_c.length : Int))) (cond (decide ((o26_c.getD k14_e.toNat (0 : Int)) ≤ (o26_c.getD i13_d.toNat (0 : Int)))) ((l40e a58 a59 a60 N p0 most12_c best11_c o26_c i13_d rec_l40c n (w64 (k14_e - (1 : Int)))))
      (chk (decide (0 ≤ k14_e ∧ k14_e < (o26_c.length : Int))) (chk (decide (0 ≤ i13_d ∧ i13_d < (o26_c.length : Int))) (chk (decide (0 ≤ i13_d ∧ i13_d < (o26_c.length : Int))) (chk (decide (0 ≤ k14_e ∧ k14_e < ((o26_c.set i13_d.toNat (o26_c.getD k14_e.toNat (0 : Int))).length : Int))) ((l40f a58 a59 a60 N p0 most12_c best11_c rec_l40c N (w64 (i13_d + (1 : Int))) (w64 ((((o26_c.set i13_d.toNat (o26_c.getD k14_e.toNat (0 : Int))).set k14_e.toNat (o26_c.getD i13_d.toNat (0 : Int))).length : Int) - (1 : Int))) ((o26_c.set i13_d.toNat (o26_c.getD k14_e.toNat (0 : Int))).set k14_e.toNat (o26_c.getD i13_d.toNat (0 : Int)))))))))))
theorem wl40e (a58 : (Int × List (List Int) × Unit) → (List Int) → Int → Option (Int)) (a59 : Int → Option (List Int)) (a60 : (Int × List (List Int) × Unit) → (List Int) → Option (Int)) (N : Nat) (p0 : Int × List (List Int) × Unit) (most12_c : Int) (best11_c : List Int) (o26_c : List Int) (i13_d : Int) (T40_2 : TS → Option (List Int × Int × Int)) (m : Nat) (k14_e : Int) : R40_4 a58 a59 a60 N T40_2 (m + 1) (Sl40e p0 most12_c best11_c o26_c i13_d k14_e) = chk (decide (0 ≤ k14_e ∧ k14_e < (o26_c.length : Int))) (chk (decide (0 ≤ i13_d ∧ i13_d < (o26_c.length : Int))) (cond (decide ((o26_c.getD k14_e.toNat (0 : Int)) ≤ (o26_c.getD i13_d.toNat (0 : Int)))) ((R40_4 a58 a59 a60 N T40_2 m (Sl40e p0 most12_c best11_c o26_c i13_d (w64 (k14_e - (1 : Int))))))
      (chk (decide (0 ≤ k14_e ∧ k14_e < (o26_c.length : Int))) (chk (decide (0 ≤ i13_d ∧ i13_d < (o26_c.length : Int))) (chk (decide (0 ≤ i13_d ∧ i13_d < (o26_c.length : Int))) (chk (decide (0 ≤ k14_e ∧ k14_e < ((o26_c.set i13_d.toNat (o26_c.getD k14_e.toNat (0 : Int))).length : Int))) ((R40_5 a58 a59 a60 N T40_2 N (Sl40f p0 most12_c best11_c (w64 (i13_d + (1 : Int))) (w64 ((((o26_c.set i13_d.toNat (o26_c.getD k14_e.toNat (0 : Int))).set k14_e.toNat (o26_c.getD i13_d.toNat (0 : Int))).length : Int) - (1 : Int))) ((o26_c.set i13_d.toNat (o26_c.getD k14_e.toNat (0 : Int))).set k14_e.toNat (o26_c.getD i13_d.toNat (0 : Int)))))))))))) := by kernel_rfl
theorem ql40e (a58 : (Int × List (List Int) × Unit) → (List Int) → Int → Option (Int)) (a59 : Int → Option (List Int)) (a60 : (Int × List (List Int) × Unit) → (List Int) → Option (Int)) (N : Nat) (p0 : Int × List (List Int) × Unit) (most12_c : Int) (best11_c : List Int) (o26_c : List Int) (i13_d : Int) (T40_2 : TS → Option (List Int × Int × Int)) : ∀ (m : Nat) (k14_e : Int), R40_4 a58 a59 a60 N T40_2 m (Sl40e p0 most12_c best11_c o26_c i13_d k14_e) = l40e a58 a59 a60 N p0 most12_c best11_c o26_c i13_d (fun y0 y1 y2 => T40_2 (Sl40c p0 y0 y1 y2)) m k14_e
        | 0, _ => rfl
        | m + 1, k14_e => by rw [wl40e]; simp only [l40e, ql40f, ql40e a58 a59 a60 N p0 most12_c best11_c o26_c i13_d T40_2 m]
def l40d (a58 : (Int × List (List Int) × Unit) → (List Int) → Int → Option (Int)) (a59 : Int → Option (List Int)) (a60 : (Int × List (List Int) × Unit) → (List Int) → Option (Int)) (N : Nat) (p0 : Int × List (List Int) × Unit) (most12_c : Int) (best11_c : List Int) (o26_c : List Int) (rec_l40c : Int → (List Int) → (List Int) → Option (List Int × Int × Int)) : Nat → Int → Option (List Int × Int × Int)
  | 0, _ => none
  | n + 1, i13_d => cond (decide (i13_d ≥ (0 : Int))) (chk (decide (0 ≤ i13_d ∧ i13_d < (o26_c.length : Int))) (chk (decide (0 ≤ w64 (i13_d + (1 : Int)) ∧ w64 (i13_d + (1 : Int)) < (o26_c.length : Int))) (cond (decide ((o26_c.getD i13_d.toNat (0 : Int)) ≥ (o26_c.getD ((w64 (i13_d + (1 : Int))).toNat) (0 : Int)))) ((l40d a58 a59 a60 N p0 most12_c best11_c o26_c rec_l40c n (w64 (i13_d - (1 : Int)))))
      (cond (decide (i13_d < (0 : Int))) (some (best11_c, most12_c, (0 : Int)))
      ((l40e a58 a59 a60 N p0 most12_c best11_c o26_c i13_d rec_l40c N (w64 ((o26_c.length : Int) - (1 : Int)))))))))
      (cond (decide (i13_d < (0 : Int))) (some (best11_c, most12_c, (0 : Int)))
      ((l40e a58 a59 a60 N p0 most12_c best11_c o26_c i13_d rec_l40c N (w64 ((o26_c.length : Int) - (1 : Int))))))
theorem wl40d (a58 : (Int × List (List Int) × Unit) → (List Int) → Int → Option (Int)) (a59 : Int → Option (List Int)) (a60 : (Int × List (List Int) × Unit) → (List Int) → Option (Int)) (N : Nat) (p0 : Int × List (List Int) × Unit) (most12_c : Int) (best11_c : List Int) (o26_c : List Int) (T40_2 : TS → Option (List Int × Int × Int)) (m : Nat) (i13_d : Int) : R40_3 a58 a59 a60 N T40_2 (m + 1) (Sl40d p0 most12_c best11_c o26_c i13_d) = cond (decide (i13_d ≥ (0 : Int))) (chk (decide (0 ≤ i13_d ∧ i13_d < (o26_c.length : Int))) (chk (decide (0 ≤ w64 (i13_d + (1 : Int)) ∧ w64 (i13_d + (1 : Int)) < (o26_c.length : Int))) (cond (decide ((o26_c.getD i13_d.toNat (0 : Int)) ≥ (o26_c.getD ((w64 (i13_d + (1 : Int))).toNat) (0 : Int)))) ((R40_3 a58 a59 a60 N T40_2 m (Sl40d p0 most12_c best11_c o26_c (w64 (i13_d - (1 : Int))))))
      (cond (decide (i13_d < (0 : Int))) (some (best11_c, most12_c, (0 : Int)))
      ((R40_4 a58 a59 a60 N T40_2 N (Sl40e p0 most12_c best11_c o26_c i13_d (w64 ((o26_c.length : Int) - (1 : Int))))))))))
      (cond (decide (i13_d < (0 : Int))) (some (best11_c, most12_c, (0 : Int)))
      ((R40_4 a58 a59 a60 N T40_2 N (Sl40e p0 most12_c best11_c o26_c i13_d (w64 ((o26_c.length : Int) - (1 : Int))))))) := by kernel_rfl
theorem ql40d (a58 : (Int × List (List Int) × Unit) → (List Int) → Int → Option (Int)) (a59 : Int → Option (List Int)) (a60 : (Int × List (List Int) × Unit) → (List Int) → Option (Int)) (N : Nat) (p0 : Int × List (List Int) × Unit) (most12_c : Int) (best11_c : List Int) (o26_c : List Int) (T40_2 : TS → Option (List Int × Int × Int)) : ∀ (m : Nat) (i13_d : Int), R40_3 a58 a59 a60 N T40_2 m (Sl40d p0 most12_c best11_c o26_c i13_d) = l40d a58 a59 a60 N p0 most12_c best11_c o26_c (fun y0 y1 y2 => T40_2 (Sl40c p0 y0 y1 y2)) m i13_d
        | 0, _ => rfl
        | m + 1, i13_d => by rw [wl40d]; simp only [l40d, ql40e, ql40d a58 a59 a60 N p0 most12_c best11_c o26_c T40_2 m]
def l40c (a58 : (Int × List (List Int) × Unit) → (List Int) → Int → Option (Int)) (a59 : Int → Option (List Int)) (a60 : (Int × List (List Int) × Unit) → (List Int) → Option (Int)) (N : Nat) (p0 : Int × List (List Int) × Unit) : Nat → Int → (List Int) → (List Int) → Option (List Int × Int × Int)
  | 0, _, _, _ => none
  | n + 1, most12_c, best11_c, o26_c => (l40d a58 a59 a60 N p0 most12_c best11_c o26_c (fun y0 y1 y2 => (l40c a58 a59 a60 N p0 n y0 y1 y2)) N (w64 ((o26_c.length : Int) - (2 : Int))))
theorem wl40c (a58 : (Int × List (List Int) × Unit) → (List Int) → Int → Option (Int)) (a59 : Int → Option (List Int)) (a60 : (Int × List (List Int) × Unit) → (List Int) → Option (Int)) (N : Nat) (p0 : Int × List (List Int) × Unit) (m : Nat) (most12_c : Int) (best11_c : List Int) (o26_c : List Int) : R40_2 a58 a59 a60 N (m + 1) (Sl40c p0 most12_c best11_c o26_c) = (R40_3 a58 a59 a60 N (R40_2 a58 a59 a60 N m) N (Sl40d p0 most12_c best11_c o26_c (w64 ((o26_c.length : Int) - (2 : Int))))) := by kernel_rfl
theorem ql40c (a58 : (Int × List (List Int) × Unit) → (List Int) → Int → Option (Int)) (a59 : Int → Option (List Int)) (a60 : (Int × List (List Int) × Unit) → (List Int) → Option (Int)) (N : Nat) (p0 : Int × List (List Int) × Unit) : ∀ (m : Nat) (most12_c : Int) (best11_c : List Int) (o26_c : List Int), R40_2 a58 a59 a60 N m (Sl40c p0 most12_c best11_c o26_c) = l40c a58 a59 a60 N p0 m most12_c best11_c o26_c
        | 0, _, _, _ => rfl
        | m + 1, most12_c, best11_c, o26_c => by rw [wl40c]; simp only [l40c, ql40d, ql40c a58 a59 a60 N p0 m]
def l40a (a58 : (Int × List (List Int) × Unit) → (List Int) → Int → Option (Int)) (a59 : Int → Option (List Int)) (a60 : (Int × List (List Int) × Unit) → (List Int) → Option (Int)) (N : Nat) (p0 : Int × List (List Int) × Unit) : Nat → Int → (List Int) → Option (List Int × Int × Int)
  | 0, _, _ => none
  | n + 1, i9_a, o26_a => cond (decide (i9_a < (o26_a.length : Int))) ((l40b a58 a59 a60 N p0 i9_a (fun y0 y1 => (l40a a58 a59 a60 N p0 n y0 y1)) N i9_a o26_a))
      (chk (small (0 + o26_a.length) 8) ((a60 p0 o26_a).bind fun r2 =>
      (a59 r2).bind fun r3 =>
      (l40c a58 a59 a60 N p0 N (r3.length : Int) (([] : List Int) ++ o26_a) o26_a)))
theorem wl40a (a58 : (Int × List (List Int) × Unit) → (List Int) → Int → Option (Int)) (a59 : Int → Option (List Int)) (a60 : (Int × List (List Int) × Unit) → (List Int) → Option (Int)) (N : Nat) (p0 : Int × List (List Int) × Unit) (m : Nat) (i9_a : Int) (o26_a : List Int) : R40_0 a58 a59 a60 N (m + 1) (Sl40a p0 i9_a o26_a) = cond (decide (i9_a < (o26_a.length : Int))) ((R40_1 a58 a59 a60 N (R40_0 a58 a59 a60 N m) N (Sl40b p0 i9_a i9_a o26_a)))
      (chk (small (0 + o26_a.length) 8) ((a60 p0 o26_a).bind fun r2 =>
      (a59 r2).bind fun r3 =>
      (R40_2 a58 a59 a60 N N (Sl40c p0 (r3.length : Int) (([] : List Int) ++ o26_a) o26_a)))) := by kernel_rfl
theorem ql40a (a58 : (Int × List (List Int) × Unit) → (List Int) → Int → Option (Int)) (a59 : Int → Option (List Int)) (a60 : (Int × List (List Int) × Unit) → (List Int) → Option (Int)) (N : Nat) (p0 : Int × List (List Int) × Unit) : ∀ (m : Nat) (i9_a : Int) (o26_a : List Int), R40_0 a58 a59 a60 N m (Sl40a p0 i9_a o26_a) = l40a a58 a59 a60 N p0 m i9_a o26_a
        | 0, _, _ => rfl
        | m + 1, i9_a, o26_a => by rw [wl40a]; simp only [l40a, ql40b, ql40c, ql40a a58 a59 a60 N p0 m]
def m40 (a58 : (Int × List (List Int) × Unit) → (List Int) → Int → Option (Int)) (a59 : Int → Option (List Int)) (a60 : (Int × List (List Int) × Unit) → (List Int) → Option (Int)) (N : Nat) (p0 : Int × List (List Int) × Unit) (stones1 : List Int) : Option (List Int × Int × Int) :=
      (a58 p0 stones1 (6 : Int)).bind fun r1 =>
      cond (r1 != (0 : Int)) (some (([] : List Int), (0 : Int), r1))
      (chk (small (0 + stones1.length) 8) ((l40a a58 a59 a60 N p0 N (0 : Int) (([] : List Int) ++ stones1))))
theorem wm40 (a58 : (Int × List (List Int) × Unit) → (List Int) → Int → Option (Int)) (a59 : Int → Option (List Int)) (a60 : (Int × List (List Int) × Unit) → (List Int) → Option (Int)) (N : Nat) (p0 : Int × List (List Int) × Unit) (stones1 : List Int) : callF (E40 a58 a59 a60) lv40 N en40 c40 (resOf Try.f40) 161 [.dv (.pair (.int .i64) (.pair (.sl (.sl (.int .i64))) (.unit))) p0, .dv (.sl (.int .i64)) stones1] [] dec40 = (a58 p0 stones1 (6 : Int)).bind fun r1 =>
      cond (r1 != (0 : Int)) (some (([] : List Int), (0 : Int), r1))
      (chk (small (0 + stones1.length) 8) ((R40_0 a58 a59 a60 N N (Sl40a p0 (0 : Int) (([] : List Int) ++ stones1))))) := by kernel_rfl
theorem k40 (a58 : (Int × List (List Int) × Unit) → (List Int) → Int → Option (Int)) (a59 : Int → Option (List Int)) (a60 : (Int × List (List Int) × Unit) → (List Int) → Option (Int)) (N : Nat) (p0 : Int × List (List Int) × Unit) (stones1 : List Int) : callF (E40 a58 a59 a60) lv40 N en40 c40 (resOf Try.f40) 161 [.dv (.pair (.int .i64) (.pair (.sl (.sl (.int .i64))) (.unit))) p0, .dv (.sl (.int .i64)) stones1] [] dec40 = m40 a58 a59 a60 N p0 stones1 := by rw [wm40]; simp only [m40, ql40a]
theorem ok40 (a58 : (Int × List (List Int) × Unit) → (List Int) → Int → Option (Int)) (a59 : Int → Option (List Int)) (a60 : (Int × List (List Int) × Unit) → (List Int) → Option (Int)) (h58 : FnOk Try.prog 58 (F58 a58)) (h59 : FnOk Try.prog 59 (F59 a59)) (h60 : FnOk Try.prog 60 (F60 a60)) (a : (Int × List (List Int) × Unit) → (List Int) → Option (List Int × Int × Int)) (h : ∀ p0 stones1 r, a p0 stones1 = some r → (∃ N, m40 a58 a59 a60 N p0 stones1 = some r)) : FnOk Try.prog 40 (F40 a) := by
  intro args Of x hx
  simp only [F40] at hx
  split at hx
  · rename_i p0 stones1
    obtain ⟨N, hN⟩ := h _ _ _ hx
    refine lifted (L := [(58, F58 a58), (59, F59 a59), (60, F60 a60)]) (rc := nrc) (fz := nfz) (fn := Try.f40) (by kernel_rfl) (by kernel_rfl) (by kernel_rfl) (by kernel_rfl) rfl ?_ ((k40 a58 a59 a60 N _ _).trans hN) ?_
    · intro p hp; simp only [List.mem_cons, List.not_mem_nil, or_false] at hp; rcases hp with rfl | rfl | rfl
      · exact h58
      · exact h59
      · exact h60
    · intro l o hd
      simp only [dec40] at hd
      split at hd
      · obtain rfl := Option.some.inj hd; exact ⟨rfl, rfl⟩
      · cases hd
  · cases hx
end Go.Proofs.Ytaioadjcdjmkdaa
