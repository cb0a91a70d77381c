/-
  The functions that the law reaches, told as plain functions.
-/
import Derived.Test.YtjcgjbdlgmbepaaWM0
import Derived.Test.YtjcgjbdlgmbepaaWRM
namespace Go.Proofs.Ytjcgjbdlgmbepaa
open Go.RowKit
set_option linter.unusedVariables false
def E23 (a58 : Int → Int → Int → Option (Bool)) : Env := mkE TI TY [(58, F58 a58)] nrc nfz
noncomputable def c23 : Code := bodyOf Try.f23
def nm23_0 : Norm := ⟨[0, 3], [], [], []⟩
def lv23 : Nat → Option Norm := norms [(6, nm23_0)]
def en23 : End := ⟨[], ⟨[36], [], [], []⟩⟩
def dec23 (l : List TV) (o : List (Nat × TO)) : Option (Int) := match l, o with | [.dv (.int .i64) x0], [] => some (x0) | _, _ => none
noncomputable def K23_0 (a58 : Int → Int → Int → Option (Bool)) (N : Nat) : Kont (Int) := kont (E23 a58) lv23 N c23 [1, 1, 1, 0, 1, 0] (fin TI en23 (resOf Try.f23) dec23)
noncomputable def R23_0 (a58 : Int → Int → Int → Option (Bool)) (N : Nat) (m : Nat) : TS → Option (Int) := loopK (den (E23 a58) lv23 N (sub c23 [1, 1, 1, 0, 1, 0, 0])) (TS.norm nm23_0) (K23_0 a58 N) m
def Sl23a (weights0 : List Int) (i3_a : Int) : TS := ⟨slots 36 [(0, .dv (.sl (.int .i64)) weights0), (3, .dv (.int .i64) i3_a)], []⟩
def l23a (a58 : Int → Int → Int → Option (Bool)) (N : Nat) (weights0 : List Int) : Nat → Int → Option (Int)
  | 0, _ => none
  | n + 1, i3_a => cond (decide (i3_a < (weights0.length : Int))) (chk (decide (0 ≤ i3_a ∧ i3_a < (weights0.length : Int))) ((a58 (weights0.getD i3_a.toNat (0 : Int)) (1 : Int) (2000 : Int)).bind fun r1 =>
      cond (!r1) (some (3 : Int))
      (cond (decide (i3_a > (0 : Int))) (chk (decide (0 ≤ i3_a ∧ i3_a < (weights0.length : Int))) (chk (decide (0 ≤ w64 (i3_a - (1 : Int)) ∧ w64 (i3_a - (1 : Int)) < (weights0.length : Int))) (cond (decide ((weights0.getD i3_a.toNat (0 : Int)) < (weights0.getD ((w64 (i3_a - (1 : Int))).toNat) (0 : Int)))) (some (7 : Int))
      ((l23a a58 N weights0 n (w64 (i3_a + (1 : Int))))))))
      ((l23a a58 N weights0 n (w64 (i3_a + (1 : Int))))))))
      (some (0 : Int))
theorem wl23a (a58 : Int → Int → Int → Option (Bool)) (N : Nat) (weights0 : List Int) (m : Nat) (i3_a : Int) : R23_0 a58 N (m + 1) (Sl23a weights0 i3_a) = cond (decide (i3_a < (weights0.length : Int))) (chk (decide (0 ≤ i3_a ∧ i3_a < (weights0.length : Int))) ((a58 (weights0.getD i3_a.toNat (0 : Int)) (1 : Int) (2000 : Int)).bind fun r1 =>
      cond (!r1) (some (3 : Int))
      (cond (decide (i3_a > (0 : Int))) (chk (decide (0 ≤ i3_a ∧ i3_a < (weights0.length : Int))) (chk (decide (0 ≤ w64 (i3_a - (1 : Int)) ∧ w64 (i3_a - (1 : Int)) < (weights0.length : Int))) (cond (decide ((weights0.getD i3_a.toNat (0 : Int)) < (weights0.getD ((w64 (i3_a - (1 : Int))).toNat) (0 : Int)))) (some (7 : Int))
      ((R23_0 a58 N m (Sl23a weights0 (w64 (i3_a + (1 : Int)))))))))
      ((R23_0 a58 N m (Sl23a weights0 (w64 (i3_a + (1 : Int)))))))))
      (some (0 : Int)) := by kernel_rfl
theorem ql23a (a58 : Int → Int → Int → Option (Bool)) (N : Nat) (weights0 : List Int) : ∀ (m : Nat) (i3_a : Int), R23_0 a58 N m (Sl23a weights0 i3_a) = l23a a58 N weights0 m i3_a
        | 0, _ => rfl
        | m + 1, i3_a => by rw [wl23a]; simp only [l23a, ql23a a58 N weights0 m]
def m23 (a58 : Int → Int → Int → Option (Bool)) (N : Nat) (weights0 : List Int) : Option (Int) :=
      cond ((weights0.length : Int) == (0 : Int)) (some (1 : Int))
      (cond (decide ((weights0.length : Int) > (7 : Int))) (some (2 : Int))
      ((l23a a58 N weights0 N (0 : Int))))
theorem wm23 (a58 : Int → Int → Int → Option (Bool)) (N : Nat) (weights0 : List Int) : callF (E23 a58) lv23 N en23 c23 (resOf Try.f23) 35 [.dv (.sl (.int .i64)) weights0] [] dec23 = cond ((weights0.length : Int) == (0 : Int)) (some (1 : Int))
      (cond (decide ((weights0.length : Int) > (7 : Int))) (some (2 : Int))
      ((R23_0 a58 N N (Sl23a weights0 (0 : Int))))) := by kernel_rfl
theorem k23 (a58 : Int → Int → Int → Option (Bool)) (N : Nat) (weights0 : List Int) : callF (E23 a58) lv23 N en23 c23 (resOf Try.f23) 35 [.dv (.sl (.int .i64)) weights0] [] dec23 = m23 a58 N weights0 := by rw [wm23]; simp only [m23, ql23a]
theorem ok23 (a58 : Int → Int → Int → Option (Bool)) (h58 : FnOk Try.prog 58 (F58 a58)) (a : (List Int) → Option (Int)) (h : ∀ weights0 r, a weights0 = some r → (∃ N, m23 a58 N weights0 = some r)) : FnOk Try.prog 23 (F23 a) := by
  intro args Of x hx
  simp only [F23] at hx
  split at hx
  · rename_i weights0
    obtain ⟨N, hN⟩ := h _ _ hx
    refine lifted (L := [(58, F58 a58)]) (rc := nrc) (fz := nfz) (fn := Try.f23) (by kernel_rfl) (by kernel_rfl) (by kernel_rfl) (by kernel_rfl) rfl ?_ ((k23 a58 N _).trans hN) ?_
    · intro p hp; simp only [List.mem_cons, List.not_mem_nil, or_false] at hp; rcases hp with rfl; exact h58
    · intro l o hd
      simp only [dec23] at hd
      split at hd
      · obtain rfl := Option.some.inj hd; exact ⟨rfl, rfl⟩
      · cases hd
  · cases hx
def E62 : Env := mkE TI TY [] nrc nfz
noncomputable def c62 : Code := bodyOf Try.f62
def nm62_0 : Norm := ⟨[0, 3, 4], [], [], [(3, .sl (.sl (.int .i64)))]⟩
def nm62_1 : Norm := ⟨[0, 3, 4, 6], [], [(.slot 5, 1005, .sl (.int .i64))], []⟩
def nm62_2 : Norm := ⟨[0, 3, 4, 6, 7], [], [(.slot 5, 1005, .sl (.int .i64))], []⟩
def lv62 : Nat → Option Norm := norms [(3, nm62_0), (7, nm62_1), (10, nm62_2)]
def en62 : End := ⟨[(38, .sl (.sl (.int .i64)))], ⟨[38], [], [], []⟩⟩
def dec62 (l : List TV) (o : List (Nat × TO)) : Option (List (List Int)) := match l, o with | [.dv (.sl (.sl (.int .i64))) x0], [] => some (x0) | _, _ => none
noncomputable def K62_0 (N : Nat) : Kont (List (List Int)) := kont (E62) lv62 N c62 [1, 1, 0, 1, 0] (fin TI en62 (resOf Try.f62) dec62)
noncomputable def R62_0 (N : Nat) (m : Nat) : TS → Option (List (List Int)) := loopK (den (E62) lv62 N (sub c62 [1, 1, 0, 1, 0, 0])) (TS.norm nm62_0) (K62_0 N) m
noncomputable def K62_1 (N : Nat) (T62_0 : TS → Option (List (List Int))) : Kont (List (List Int)) := kont (E62) lv62 N (sub c62 [1, 1, 0, 1, 0, 0]) [1, 0, 0, 1, 0, 1, 0] (kloop (TS.norm nm62_0) (K62_0 N) T62_0)
noncomputable def R62_1 (N : Nat) (T62_0 : TS → Option (List (List Int))) (m : Nat) : TS → Option (List (List Int)) := loopK (den (E62) lv62 N (sub c62 [1, 1, 0, 1, 0, 0, 1, 0, 0, 1, 0, 1, 0, 0])) (TS.norm nm62_1) (K62_1 N T62_0) m
noncomputable def K62_2 (N : Nat) (T62_0 : TS → Option (List (List Int))) (T62_1 : TS → Option (List (List Int))) : Kont (List (List Int)) := kont (E62) lv62 N (sub c62 [1, 1, 0, 1, 0, 0, 1, 0, 0, 1, 0, 1, 0, 0]) [1, 0, 0, 1, 0] (kloop (TS.norm nm62_1) (K62_1 N T62_0) T62_1)
noncomputable def R62_2 (N : Nat) (T62_0 : TS → Option (List (List Int))) (T62_1 : TS → Option (List (List Int))) (m : Nat) : TS → Option (List (List Int)) := loopK (den (E62) lv62 N (sub c62 [1, 1, 0, 1, 0, 0, 1, 0, 0, 1, 0, 1, 0, 0, 1, 0, 0, 1, 0, 0])) (TS.norm nm62_2) (K62_2 N T62_0 T62_1) m
def Sl62c (n0 : Int) (out3_a : List (List Int)) (i4_a : Int) (k6_b : Int) (way7_c : Int) (next5_c : List (List Int)) : TS := ⟨slots 38 [(0, .dv (.int .i64) n0), (3, .dv (.sl (.sl (.int .i64))) out3_a), (4, .dv (.int .i64) i4_a), (5, .row 1005), (6, .dv (.int .i64) k6_b), (7, .dv (.int .i64) way7_c)], [(1005, .row (.sl (.int .i64)) next5_c)]⟩
def Sl62b (n0 : Int) (out3_a : List (List Int)) (i4_a : Int) (k6_b : Int) (next5_b : List (List Int)) : TS := ⟨slots 38 [(0, .dv (.int .i64) n0), (3, .dv (.sl (.sl (.int .i64))) out3_a), (4, .dv (.int .i64) i4_a), (5, .row 1005), (6, .dv (.int .i64) k6_b)], [(1005, .row (.sl (.int .i64)) next5_b)]⟩
def Sl62a (n0 : Int) (out3_a : List (List Int)) (i4_a : Int) : TS := ⟨slots 38 [(0, .dv (.int .i64) n0), (3, .dv (.sl (.sl (.int .i64))) out3_a), (4, .dv (.int .i64) i4_a)], []⟩
def l62c (N : Nat) (n0 : Int) (out3_a : List (List Int)) (i4_a : Int) (k6_b : Int) (rec_l62b : Int → (List (List Int)) → Option (List (List Int))) : Nat → Int → (List (List Int)) → Option (List (List Int))
  | 0, _, _ => none
  | n + 1, way7_c, next5_c => cond (decide (way7_c ≥ (-1 : Int))) (chk (decide (0 ≤ k6_b ∧ k6_b < (out3_a.length : Int))) (chk (small (0 + (out3_a.getD k6_b.toNat ([] : List Int)).length) 8) (chk (small ((([] : List Int) ++ (out3_a.getD k6_b.toNat ([] : List Int))).length + 1) 8) (chk (small (next5_c.length + 1) 24) ((l62c N n0 out3_a i4_a k6_b rec_l62b n (w64 (way7_c - (1 : Int))) (next5_c ++ ([(([] : List Int) ++ (out3_a.getD k6_b.toNat ([] : List Int))) ++ ([way7_c] : List Int)] : List (List Int)))))))))
      ((rec_l62b (w64 (k6_b + (1 : Int))) next5_c))
theorem wl62c (N : Nat) (n0 : Int) (out3_a : List (List Int)) (i4_a : Int) (k6_b : Int) (T62_0 : TS → Option (List (List Int))) (T62_1 : TS → Option (List (List Int))) (m : Nat) (way7_c : Int) (next5_c : List (List Int)) : R62_2 N T62_0 T62_1 (m + 1) (Sl62c n0 out3_a i4_a k6_b way7_c next5_c) = cond (decide (way7_c ≥ (-1 : Int))) (chk (decide (0 ≤ k6_b ∧ k6_b < (out3_a.length : Int))) (chk (small (0 + (out3_a.getD k6_b.toNat ([] : List Int)).length) 8) (chk (small ((([] : List Int) ++ (out3_a.getD k6_b.toNat ([] : List Int))).length + 1) 8) (chk (small (next5_c.length + 1) 24) ((R62_2 N T62_0 T62_1 m (Sl62c n0 out3_a i4_a k6_b (w64 (way7_c - (1 : Int))) (next5_c ++ ([(([] : List Int) ++ (out3_a.getD k6_b.toNat ([] : List Int))) ++ ([way7_c] : List Int)] : List (List Int))))))))))
      ((T62_1 (Sl62b n0 out3_a i4_a (w64 (k6_b + (1 : Int))) next5_c))) := by kernel_rfl
theorem ql62c (N : Nat) (n0 : Int) (out3_a : List (List Int)) (i4_a : Int) (k6_b : Int) (T62_0 : TS → Option (List (List Int))) (T62_1 : TS → Option (List (List Int))) : ∀ (m : Nat) (way7_c : Int) (next5_c : List (List Int)), R62_2 N T62_0 T62_1 m (Sl62c n0 out3_a i4_a k6_b way7_c next5_c) = l62c N n0 out3_a i4_a k6_b (fun y0 y1 => T62_1 (Sl62b n0 out3_a i4_a y0 y1)) m way7_c next5_c
        | 0, _, _ => rfl
        | m + 1, way7_c, next5_c => by rw [wl62c]; simp only [l62c, ql62c N n0 out3_a i4_a k6_b T62_0 T62_1 m]
def l62b (N : Nat) (n0 : Int) (out3_a : List (List Int)) (i4_a : Int) (rec_l62a : (List (List Int)) → Int → Option (List (List Int))) : Nat → Int → (List (List Int)) → Option (List (List Int))
  | 0, _, _ => none
  | n + 1, k6_b, next5_b => cond (decide (k6_b < (out3_a.length : Int))) ((l62c N n0 out3_a i4_a k6_b (fun y0 y1 => (l62b N n0 out3_a i4_a rec_l62a n y0 y1)) N (1 : Int) next5_b))
      ((rec_l62a next5_b (w64 (i4_a + (1 : Int)))))
theorem wl62b (N : Nat) (n0 : Int) (out3_a : List (List Int)) (i4_a : Int) (T62_0 : TS → Option (List (List Int))) (m : Nat) (k6_b : Int) (next5_b : List (List Int)) : R62_1 N T62_0 (m + 1) (Sl62b n0 out3_a i4_a k6_b next5_b) = cond (decide (k6_b < (out3_a.length : Int))) ((R62_2 N T62_0 (R62_1 N T62_0 m) N (Sl62c n0 out3_a i4_a k6_b (1 : Int) next5_b)))
      ((T62_0 (Sl62a n0 next5_b (w64 (i4_a + (1 : Int)))))) := by kernel_rfl
theorem ql62b (N : Nat) (n0 : Int) (out3_a : List (List Int)) (i4_a : Int) (T62_0 : TS → Option (List (List Int))) : ∀ (m : Nat) (k6_b : Int) (next5_b : List (List Int)), R62_1 N T62_0 m (Sl62b n0 out3_a i4_a k6_b next5_b) = l62b N n0 out3_a i4_a (fun y0 y1 => T62_0 (Sl62a n0 y0 y1)) m k6_b next5_b
        | 0, _, _ => rfl
        | m + 1, k6_b, next5_b => by rw [wl62b]; simp only [l62b, ql62c, ql62b N n0 out3_a i4_a T62_0 m]
def l62a (N : Nat) (n0 : Int) : Nat → (List (List Int)) → Int → Option (List (List Int))
  | 0, _, _ => none
  | n + 1, out3_a, i4_a => cond (decide (i4_a < n0)) ((l62b N n0 out3_a i4_a (fun y0 y1 => (l62a N n0 n y0 y1)) N (0 : Int) ([] : List (List Int))))
      (some out3_a)
theorem wl62a (N : Nat) (n0 : Int) (m : Nat) (out3_a : List (List Int)) (i4_a : Int) : R62_0 N (m + 1) (Sl62a n0 out3_a i4_a) = cond (decide (i4_a < n0)) ((R62_1 N (R62_0 N m) N (Sl62b n0 out3_a i4_a (0 : Int) ([] : List (List Int)))))
      (some out3_a) := by kernel_rfl
theorem ql62a (N : Nat) (n0 : Int) : ∀ (m : Nat) (out3_a : List (List Int)) (i4_a : Int), R62_0 N m (Sl62a n0 out3_a i4_a) = l62a N n0 m out3_a i4_a
        | 0, _, _ => rfl
        | m + 1, out3_a, i4_a => by rw [wl62a]; simp only [l62a, ql62b, ql62a N n0 m]
def m62 (N : Nat) (n0 : Int) : Option (List (List Int)) :=
      (l62a N n0 N ([([] : List Int)] : List (List Int)) (0 : Int))
theorem wm62 (N : Nat) (n0 : Int) : callF (E62) lv62 N en62 c62 (resOf Try.f62) 37 [.dv (.int .i64) n0] [] dec62 = (R62_0 N N (Sl62a n0 ([([] : List Int)] : List (List Int)) (0 : Int))) := by kernel_rfl
theorem k62 (N : Nat) (n0 : Int) : callF (E62) lv62 N en62 c62 (resOf Try.f62) 37 [.dv (.int .i64) n0] [] dec62 = m62 N n0 := by rw [wm62]; simp only [m62, ql62a]
theorem ok62 (a : Int → Option (List (List Int))) (h : ∀ n0 r, a n0 = some r → (∃ N, m62 N n0 = some r)) : FnOk Try.prog 62 (F62 a) := by
  intro args Of x hx
  simp only [F62] at hx
  split at hx
  · rename_i n0
    obtain ⟨N, hN⟩ := h _ _ hx
    refine lifted (L := []) (rc := nrc) (fz := nfz) (fn := Try.f62) (by kernel_rfl) (by kernel_rfl) (by kernel_rfl) (by kernel_rfl) rfl ?_ ((k62 N _).trans hN) ?_
    · intro p hp; cases hp
    · intro l o hd
      simp only [dec62] at hd
      split at hd
      · obtain rfl := Option.some.inj hd; exact ⟨rfl, rfl⟩
      · cases hd
  · cases hx
def E63 : Env := mkE TI TY [] nrc nfz
noncomputable def c63 : Code := bodyOf Try.f63
def nm63_0 : Norm := ⟨[0, 1, 6, 7, 8], [], [], []⟩
def lv63 : Nat → Option Norm := norms [(3, nm63_0)]
def en63 : End := ⟨[], ⟨[35, 36], [], [], []⟩⟩
def dec63 (l : List TV) (o : List (Nat × TO)) : Option (Int × Int) := match l, o with | [.dv (.int .i64) x0, .dv (.int .i64) x1], [] => some (x0, x1) | _, _ => none
noncomputable def K63_0 (N : Nat) : Kont (Int × Int) := kont (E63) lv63 N c63 [1, 1, 0, 1, 0] (fin TI en63 (resOf Try.f63) dec63)
noncomputable def R63_0 (N : Nat) (m : Nat) : TS → Option (Int × Int) := loopK (den (E63) lv63 N (sub c63 [1, 1, 0, 1, 0, 0])) (TS.norm nm63_0) (K63_0 N) m
def Sl63a (weights0 : List Int) (laying1 : List Int) (sum6_a : Int) (used7_a : Int) (i8_a : Int) : TS := ⟨slots 35 [(0, .dv (.sl (.int .i64)) weights0), (1, .dv (.sl (.int .i64)) laying1), (6, .dv (.int .i64) sum6_a), (7, .dv (.int .i64) used7_a), (8, .dv (.int .i64) i8_a)], []⟩
def l63a (N : Nat) (weights0 : List Int) (laying1 : List Int) : Nat → Int → Int → Int → Option (Int × Int)
  | 0, _, _, _ => none
  | n + 1, sum6_a, used7_a, i8_a => cond (decide (i8_a < (weights0.length : Int))) (chk (decide (0 ≤ i8_a ∧ i8_a < (weights0.length : Int))) (chk (decide (0 ≤ i8_a ∧ i8_a < (laying1.length : Int))) (chk (decide (0 ≤ i8_a ∧ i8_a < (laying1.length : Int))) (cond ((laying1.getD i8_a.toNat (0 : Int)) != (0 : Int)) ((l63a N weights0 laying1 n (w64 (sum6_a + (w64 ((weights0.getD i8_a.toNat (0 : Int)) * (laying1.getD i8_a.toNat (0 : Int)))))) (w64 (used7_a + (1 : Int))) (w64 (i8_a + (1 : Int)))))
      ((l63a N weights0 laying1 n (w64 (sum6_a + (w64 ((weights0.getD i8_a.toNat (0 : Int)) * (laying1.getD i8_a.toNat (0 : Int)))))) used7_a (w64 (i8_a + (1 : Int)))))))))
      (some (sum6_a, used7_a))
theorem wl63a (N : Nat) (weights0 : List Int) (laying1 : List Int) (m : Nat) (sum6_a : Int) (used7_a : Int) (i8_a : Int) : R63_0 N (m + 1) (Sl63a weights0 laying1 sum6_a used7_a i8_a) = cond (decide (i8_a < (weights0.length : Int))) (chk (decide (0 ≤ i8_a ∧ i8_a < (weights0.length : Int))) (chk (decide (0 ≤ i8_a ∧ i8_a < (laying1.length : Int))) (chk (decide (0 ≤ i8_a ∧ i8_a < (laying1.length : Int))) (cond ((laying1.getD i8_a.toNat (0 : Int)) != (0 : Int)) ((R63_0 N m (Sl63a weights0 laying1 (w64 (sum6_a + (w64 ((weights0.getD i8_a.toNat (0 : Int)) * (laying1.getD i8_a.toNat (0 : Int)))))) (w64 (used7_a + (1 : Int))) (w64 (i8_a + (1 : Int))))))
      ((R63_0 N m (Sl63a weights0 laying1 (w64 (sum6_a + (w64 ((weights0.getD i8_a.toNat (0 : Int)) * (laying1.getD i8_a.toNat (0 : Int)))))) used7_a (w64 (i8_a + (1 : Int))))))))))
      (some (sum6_a, used7_a)) := by kernel_rfl
theorem ql63a (N : Nat) (weights0 : List Int) (laying1 : List Int) : ∀ (m : Nat) (sum6_a : Int) (used7_a : Int) (i8_a : Int), R63_0 N m (Sl63a weights0 laying1 sum6_a used7_a i8_a) = l63a N weights0 laying1 m sum6_a used7_a i8_a
        | 0, _, _, _ => rfl
        | m + 1, sum6_a, used7_a, i8_a => by rw [wl63a]; simp only [l63a, ql63a N weights0 laying1 m]
def m63 (N : Nat) (weights0 : List Int) (laying1 : List Int) : Option (Int × Int) :=
      (l63a N weights0 laying1 N (0 : Int) (0 : Int) (0 : Int))
theorem wm63 (N : Nat) (weights0 : List Int) (laying1 : List Int) : callF (E63) lv63 N en63 c63 (resOf Try.f63) 33 [.dv (.sl (.int .i64)) weights0, .dv (.sl (.int .i64)) laying1] [] dec63 = (R63_0 N N (Sl63a weights0 laying1 (0 : Int) (0 : Int) (0 : Int))) := by kernel_rfl
theorem k63 (N : Nat) (weights0 : List Int) (laying1 : List Int) : callF (E63) lv63 N en63 c63 (resOf Try.f63) 33 [.dv (.sl (.int .i64)) weights0, .dv (.sl (.int .i64)) laying1] [] dec63 = m63 N weights0 laying1 := by rw [wm63]; simp only [m63, ql63a]
theorem ok63 (a : (List Int) → (List Int) → Option (Int × Int)) (h : ∀ weights0 laying1 r, a weights0 laying1 = some r → (∃ N, m63 N weights0 laying1 = some r)) : FnOk Try.prog 63 (F63 a) := by
  intro args Of x hx
  simp only [F63] at hx
  split at hx
  · rename_i weights0 laying1
    obtain ⟨N, hN⟩ := h _ _ _ hx
    refine lifted (L := []) (rc := nrc) (fz := nfz) (fn := Try.f63) (by kernel_rfl) (by kernel_rfl) (by kernel_rfl) (by kernel_rfl) rfl ?_ ((k63 N _ _).trans hN) ?_
    · intro p hp; cases hp
    · intro l o hd
      simp only [dec63] at hd
      split at hd
      · obtain rfl := Option.some.inj hd; exact ⟨rfl, rfl⟩
      · cases hd
  · cases hx
def E56 (a62 : Int → Option (List (List Int))) (a63 : (List Int) → (List Int) → Option (Int × Int)) : Env := mkE TI TY [(62, F62 a62), (63, F63 a63)] nrc nfz
noncomputable def c56 : Code := bodyOf Try.f56
def nm56_0 : Norm := ⟨[0, 3, 4], [], [], []⟩
def nm56_1 : Norm := ⟨[0, 5, 6, 7], [24], [], []⟩
def lv56 : Nat → Option Norm := norms [(3, nm56_0), (9, nm56_1)]
def en56 : End := ⟨[(49, .sl (.bool))], ⟨[49], [], [], []⟩⟩
def dec56 (l : List TV) (o : List (Nat × TO)) : Option (List Bool) := match l, o with | [.dv (.sl (.bool)) x0], [] => some (x0) | _, _ => none
noncomputable def K56_0 (a62 : Int → Option (List (List Int))) (a63 : (List Int) → (List Int) → Option (Int × Int)) (N : Nat) : Kont (List Bool) := kont (E56 a62 a63) lv56 N c56 [1, 1, 0, 1, 0] (fin TI en56 (resOf Try.f56) dec56)
noncomputable def R56_0 (a62 : Int → Option (List (List Int))) (a63 : (List Int) → (List Int) → Option (Int × Int)) (N : Nat) (m : Nat) : TS → Option (List Bool) := loopK (den (E56 a62 a63) lv56 N (sub c56 [1, 1, 0, 1, 0, 0])) (TS.norm nm56_0) (K56_0 a62 a63 N) m
noncomputable def K56_1 (a62 : Int → Option (List (List Int))) (a63 : (List Int) → (List Int) → Option (Int × Int)) (N : Nat) : Kont (List Bool) := kont (E56 a62 a63) lv56 N c56 [1, 1, 1, 1, 1, 0, 1, 0] (fin TI en56 (resOf Try.f56) dec56)
noncomputable def R56_1 (a62 : Int → Option (List (List Int))) (a63 : (List Int) → (List Int) → Option (Int × Int)) (N : Nat) (m : Nat) : TS → Option (List Bool) := loopK (den (E56 a62 a63) lv56 N (sub c56 [1, 1, 1, 1, 1, 0, 1, 0, 0])) (TS.norm nm56_1) (K56_1 a62 a63 N) m
def Sl56b (weights0 : List Int) (r1 : List (List Int)) (i7_b : Int) (o24_b : List Bool) : TS := ⟨slots 49 [(0, .dv (.sl (.int .i64)) weights0), (5, .row 24), (6, .dv (.sl (.sl (.int .i64))) r1), (7, .dv (.int .i64) i7_b)], [(24, .row (.bool) o24_b)]⟩
def Sl56a (weights0 : List Int) (sum3_a : Int) (i4_a : Int) : TS := ⟨slots 49 [(0, .dv (.sl (.int .i64)) weights0), (3, .dv (.int .i64) sum3_a), (4, .dv (.int .i64) i4_a)], []⟩
def l56b (a62 : Int → Option (List (List Int))) (a63 : (List Int) → (List Int) → Option (Int × Int)) (N : Nat) (weights0 : List Int) (r1 : List (List Int)) : Nat → Int → (List Bool) → Option (List Bool)
  | 0, _, _ => none
  | n + 1, i7_b, o24_b => cond (decide (i7_b < (r1.length : Int))) (chk (decide (0 ≤ i7_b ∧ i7_b < (r1.length : Int))) ((a63 weights0 (r1.getD i7_b.toNat ([] : List Int))).bind fun r2 =>
      cond (decide (r2.1 ≥ (0 : Int))) (chk (decide (0 ≤ r2.1 ∧ r2.1 < (o24_b.length : Int))) ((l56b a62 a63 N weights0 r1 n (w64 (i7_b + (1 : Int))) (o24_b.set r2.1.toNat true))))
      ((l56b a62 a63 N weights0 r1 n (w64 (i7_b + (1 : Int))) o24_b))))
      (some o24_b)
theorem wl56b (a62 : Int → Option (List (List Int))) (a63 : (List Int) → (List Int) → Option (Int × Int)) (N : Nat) (weights0 : List Int) (r1 : List (List Int)) (m : Nat) (i7_b : Int) (o24_b : List Bool) : R56_1 a62 a63 N (m + 1) (Sl56b weights0 r1 i7_b o24_b) = cond (decide (i7_b < (r1.length : Int))) (chk (decide (0 ≤ i7_b ∧ i7_b < (r1.length : Int))) ((a63 weights0 (r1.getD i7_b.toNat ([] : List Int))).bind fun r2 =>
      cond (decide (r2.1 ≥ (0 : Int))) (chk (decide (0 ≤ r2.1 ∧ r2.1 < (o24_b.length : Int))) ((R56_1 a62 a63 N m (Sl56b weights0 r1 (w64 (i7_b + (1 : Int))) (o24_b.set r2.1.toNat true)))))
      ((R56_1 a62 a63 N m (Sl56b weights0 r1 (w64 (i7_b + (1 : Int))) o24_b)))))
      (some o24_b) := by kernel_rfl
theorem ql56b (a62 : Int → Option (List (List Int))) (a63 : (List Int) → (List Int) → Option (Int × Int)) (N : Nat) (weights0 : List Int) (r1 : List (List Int)) : ∀ (m : Nat) (i7_b : Int) (o24_b : List Bool), R56_1 a62 a63 N m (Sl56b weights0 r1 i7_b o24_b) = l56b a62 a63 N weights0 r1 m i7_b o24_b
        | 0, _, _ => rfl
        | m + 1, i7_b, o24_b => by rw [wl56b]; simp only [l56b, ql56b a62 a63 N weights0 r1 m]
def l56a (a62 : Int → Option (List (List Int))) (a63 : (List Int) → (List Int) → Option (Int × Int)) (N : Nat) (weights0 : List Int) : Nat → Int → Int → Option (List Bool)
  | 0, _, _ => none
  | n + 1, sum3_a, i4_a => cond (decide (i4_a < (weights0.length : Int))) (chk (decide (0 ≤ i4_a ∧ i4_a < (weights0.length : Int))) ((l56a a62 a63 N weights0 n (w64 (sum3_a + (weights0.getD i4_a.toNat (0 : Int)))) (w64 (i4_a + (1 : Int))))))
      (chk (mkOk (w64 (sum3_a + (1 : Int))) (w64 (sum3_a + (1 : Int))) 1) ((a62 (weights0.length : Int)).bind fun r1 =>
      (l56b a62 a63 N weights0 r1 N (0 : Int) (List.replicate ((w64 (sum3_a + (1 : Int))).toNat) false))))
theorem wl56a (a62 : Int → Option (List (List Int))) (a63 : (List Int) → (List Int) → Option (Int × Int)) (N : Nat) (weights0 : List Int) (m : Nat) (sum3_a : Int) (i4_a : Int) : R56_0 a62 a63 N (m + 1) (Sl56a weights0 sum3_a i4_a) = cond (decide (i4_a < (weights0.length : Int))) (chk (decide (0 ≤ i4_a ∧ i4_a < (weights0.length : Int))) ((R56_0 a62 a63 N m (Sl56a weights0 (w64 (sum3_a + (weights0.getD i4_a.toNat (0 : Int)))) (w64 (i4_a + (1 : Int)))))))
      (chk (mkOk (w64 (sum3_a + (1 : Int))) (w64 (sum3_a + (1 : Int))) 1) ((a62 (weights0.length : Int)).bind fun r1 =>
      (R56_1 a62 a63 N N (Sl56b weights0 r1 (0 : Int) (List.replicate ((w64 (sum3_a + (1 : Int))).toNat) false))))) := by kernel_rfl
theorem ql56a (a62 : Int → Option (List (List Int))) (a63 : (List Int) → (List Int) → Option (Int × Int)) (N : Nat) (weights0 : List Int) : ∀ (m : Nat) (sum3_a : Int) (i4_a : Int), R56_0 a62 a63 N m (Sl56a weights0 sum3_a i4_a) = l56a a62 a63 N weights0 m sum3_a i4_a
        | 0, _, _ => rfl
        | m + 1, sum3_a, i4_a => by rw [wl56a]; simp only [l56a, ql56b, ql56a a62 a63 N weights0 m]
def m56 (a62 : Int → Option (List (List Int))) (a63 : (List Int) → (List Int) → Option (Int × Int)) (N : Nat) (weights0 : List Int) : Option (List Bool) :=
      (l56a a62 a63 N weights0 N (0 : Int) (0 : Int))
theorem wm56 (a62 : Int → Option (List (List Int))) (a63 : (List Int) → (List Int) → Option (Int × Int)) (N : Nat) (weights0 : List Int) : callF (E56 a62 a63) lv56 N en56 c56 (resOf Try.f56) 48 [.dv (.sl (.int .i64)) weights0] [] dec56 = (R56_0 a62 a63 N N (Sl56a weights0 (0 : Int) (0 : Int))) := by kernel_rfl
theorem k56 (a62 : Int → Option (List (List Int))) (a63 : (List Int) → (List Int) → Option (Int × Int)) (N : Nat) (weights0 : List Int) : callF (E56 a62 a63) lv56 N en56 c56 (resOf Try.f56) 48 [.dv (.sl (.int .i64)) weights0] [] dec56 = m56 a62 a63 N weights0 := by rw [wm56]; simp only [m56, ql56a]
theorem ok56 (a62 : Int → Option (List (List Int))) (a63 : (List Int) → (List Int) → Option (Int × Int)) (h62 : FnOk Try.prog 62 (F62 a62)) (h63 : FnOk Try.prog 63 (F63 a63)) (a : (List Int) → Option (List Bool)) (h : ∀ weights0 r, a weights0 = some r → (∃ N, m56 a62 a63 N weights0 = some r)) : FnOk Try.prog 56 (F56 a) := by
  intro args Of x hx
  simp only [F56] at hx
  split at hx
  · rename_i weights0
    obtain ⟨N, hN⟩ := h _ _ hx
    refine lifted (L := [(62, F62 a62), (63, F63 a63)]) (rc := nrc) (fz := nfz) (fn := Try.f56) (by kernel_rfl) (by kernel_rfl) (by kernel_rfl) (by kernel_rfl) rfl ?_ ((k56 a62 a63 N _).trans hN) ?_
    · intro p hp; simp only [List.mem_cons, List.not_mem_nil, or_false] at hp; rcases hp with rfl | rfl
      · exact h62
      · exact h63
    · intro l o hd
      simp only [dec56] at hd
      split at hd
      · obtain rfl := Option.some.inj hd; exact ⟨rfl, rfl⟩
      · cases hd
  · cases hx
def E18 (a23 : (List Int) → Option (Int)) (a56 : (List Int) → Option (List Bool)) : Env := mkE TI TY [(23, F23 a23), (56, F56 a56)] nrc nfz
noncomputable def c18 : Code := bodyOf Try.f18
def nm18_0 : Norm := ⟨[5, 7], [], [(.slot 6, 1006, .int .i64)], []⟩
def lv18 : Nat → Option Norm := norms [(7, nm18_0)]
def en18 : End := ⟨[(30, .sl (.int .i64))], ⟨[30, 31], [], [], []⟩⟩
def dec18 (l : List TV) (o : List (Nat × TO)) : Option (List Int × Int) := match l, o with | [.dv (.sl (.int .i64)) x0, .dv (.int .i64) x1], [] => some (x0, x1) | _, _ => none
noncomputable def K18_0 (a23 : (List Int) → Option (Int)) (a56 : (List Int) → Option (List Bool)) (N : Nat) : Kont (List Int × Int) := kont (E18 a23 a56) lv18 N c18 [1, 1, 1, 1, 1, 0, 1, 0] (fin TI en18 (resOf Try.f18) dec18)
noncomputable def R18_0 (a23 : (List Int) → Option (Int)) (a56 : (List Int) → Option (List Bool)) (N : Nat) (m : Nat) : TS → Option (List Int × Int) := loopK (den (E18 a23 a56) lv18 N (sub c18 [1, 1, 1, 1, 1, 0, 1, 0, 0])) (TS.norm nm18_0) (K18_0 a23 a56 N) m
def Sl18a (r2 : List Bool) (n7_a : Int) (out6_a : List Int) : TS := ⟨slots 30 [(5, .dv (.sl (.bool)) r2), (6, .row 1006), (7, .dv (.int .i64) n7_a)], [(1006, .row (.int .i64) out6_a)]⟩
def l18a (a23 : (List Int) → Option (Int)) (a56 : (List Int) → Option (List Bool)) (N : Nat) (r2 : List Bool) : Nat → Int → (List Int) → Option (List Int × Int)
  | 0, _, _ => none
  | n + 1, n7_a, out6_a => cond (decide (n7_a < (r2.length : Int))) (chk (decide (0 ≤ n7_a ∧ n7_a < (r2.length : Int))) (cond (r2.getD n7_a.toNat false) (chk (small (out6_a.length + 1) 8) ((l18a a23 a56 N r2 n (w64 (n7_a + (1 : Int))) (out6_a ++ ([n7_a] : List Int)))))
      ((l18a a23 a56 N r2 n (w64 (n7_a + (1 : Int))) out6_a))))
      (some (out6_a, (0 : Int)))
theorem wl18a (a23 : (List Int) → Option (Int)) (a56 : (List Int) → Option (List Bool)) (N : Nat) (r2 : List Bool) (m : Nat) (n7_a : Int) (out6_a : List Int) : R18_0 a23 a56 N (m + 1) (Sl18a r2 n7_a out6_a) = cond (decide (n7_a < (r2.length : Int))) (chk (decide (0 ≤ n7_a ∧ n7_a < (r2.length : Int))) (cond (r2.getD n7_a.toNat false) (chk (small (out6_a.length + 1) 8) ((R18_0 a23 a56 N m (Sl18a r2 (w64 (n7_a + (1 : Int))) (out6_a ++ ([n7_a] : List Int))))))
      ((R18_0 a23 a56 N m (Sl18a r2 (w64 (n7_a + (1 : Int))) out6_a)))))
      (some (out6_a, (0 : Int))) := by kernel_rfl
theorem ql18a (a23 : (List Int) → Option (Int)) (a56 : (List Int) → Option (List Bool)) (N : Nat) (r2 : List Bool) : ∀ (m : Nat) (n7_a : Int) (out6_a : List Int), R18_0 a23 a56 N m (Sl18a r2 n7_a out6_a) = l18a a23 a56 N r2 m n7_a out6_a
        | 0, _, _ => rfl
        | m + 1, n7_a, out6_a => by rw [wl18a]; simp only [l18a, ql18a a23 a56 N r2 m]
def m18 (a23 : (List Int) → Option (Int)) (a56 : (List Int) → Option (List Bool)) (N : Nat) (weights0 : List Int) : Option (List Int × Int) :=
      (a23 weights0).bind fun r1 =>
      cond (r1 != (0 : Int)) (some (([] : List Int), r1))
      ((a56 weights0).bind fun r2 =>
      (l18a a23 a56 N r2 N (1 : Int) ([] : List Int)))
theorem wm18 (a23 : (List Int) → Option (Int)) (a56 : (List Int) → Option (List Bool)) (N : Nat) (weights0 : List Int) : callF (E18 a23 a56) lv18 N en18 c18 (resOf Try.f18) 29 [.dv (.sl (.int .i64)) weights0] [] dec18 = (a23 weights0).bind fun r1 =>
      cond (r1 != (0 : Int)) (some (([] : List Int), r1))
      ((a56 weights0).bind fun r2 =>
      (R18_0 a23 a56 N N (Sl18a r2 (1 : Int) ([] : List Int)))) := by kernel_rfl
theorem k18 (a23 : (List Int) → Option (Int)) (a56 : (List Int) → Option (List Bool)) (N : Nat) (weights0 : List Int) : callF (E18 a23 a56) lv18 N en18 c18 (resOf Try.f18) 29 [.dv (.sl (.int .i64)) weights0] [] dec18 = m18 a23 a56 N weights0 := by rw [wm18]; simp only [m18, ql18a]
theorem ok18 (a23 : (List Int) → Option (Int)) (a56 : (List Int) → Option (List Bool)) (h23 : FnOk Try.prog 23 (F23 a23)) (h56 : FnOk Try.prog 56 (F56 a56)) (a : (List Int) → Option (List Int × Int)) (h : ∀ weights0 r, a weights0 = some r → (∃ N, m18 a23 a56 N weights0 = some r)) : FnOk Try.prog 18 (F18 a) := by
  intro args Of x hx
  simp only [F18] at hx
  split at hx
  · rename_i weights0
    obtain ⟨N, hN⟩ := h _ _ hx
    refine lifted (L := [(23, F23 a23), (56, F56 a56)]) (rc := nrc) (fz := nfz) (fn := Try.f18) (by kernel_rfl) (by kernel_rfl) (by kernel_rfl) (by kernel_rfl) rfl ?_ ((k18 a23 a56 N _).trans hN) ?_
    · intro p hp; simp only [List.mem_cons, List.not_mem_nil, or_false] at hp; rcases hp with rfl | rfl
      · exact h23
      · exact h56
    · intro l o hd
      simp only [dec18] at hd
      split at hd
      · obtain rfl := Option.some.inj hd; exact ⟨rfl, rfl⟩
      · cases hd
  · cases hx
def E20 (a23 : (List Int) → Option (Int)) (a56 : (List Int) → Option (List Bool)) : Env := mkE TI TY [(23, F23 a23), (56, F56 a56)] nrc nfz
noncomputable def c20 : Code := bodyOf Try.f20
def nm20_0 : Norm := ⟨[5, 6], [], [], []⟩
def lv20 : Nat → Option Norm := norms [(6, nm20_0)]
def en20 : End := ⟨[], ⟨[29, 30], [], [], []⟩⟩
def dec20 (l : List TV) (o : List (Nat × TO)) : Option (Int × Int) := match l, o with | [.dv (.int .i64) x0, .dv (.int .i64) x1], [] => some (x0, x1) | _, _ => none
noncomputable def K20_0 (a23 : (List Int) → Option (Int)) (a56 : (List Int) → Option (List Bool)) (N : Nat) : Kont (Int × Int) := kont (E20 a23 a56) lv20 N c20 [1, 1, 1, 1, 1, 0, 0] (fin TI en20 (resOf Try.f20) dec20)
noncomputable def R20_0 (a23 : (List Int) → Option (Int)) (a56 : (List Int) → Option (List Bool)) (N : Nat) (m : Nat) : TS → Option (Int × Int) := loopK (den (E20 a23 a56) lv20 N (sub c20 [1, 1, 1, 1, 1, 0, 0, 0])) (TS.norm nm20_0) (K20_0 a23 a56 N) m
def Sl20a (r2 : List Bool) (n6_a : Int) : TS := ⟨slots 29 [(5, .dv (.sl (.bool)) r2), (6, .dv (.int .i64) n6_a)], []⟩
def l20a (a23 : (List Int) → Option (Int)) (a56 : (List Int) → Option (List Bool)) (N : Nat) (r2 : List Bool) : Nat → Int → Option (Int × Int)
  | 0, _ => none
  | n + 1, n6_a => cond (decide ((w64 (n6_a + (1 : Int))) < (r2.length : Int))) (chk (decide (0 ≤ w64 (n6_a + (1 : Int)) ∧ w64 (n6_a + (1 : Int)) < (r2.length : Int))) (cond (r2.getD ((w64 (n6_a + (1 : Int))).toNat) false) ((l20a a23 a56 N r2 n (w64 (n6_a + (1 : Int)))))
      (some (n6_a, (0 : Int)))))
      (some (n6_a, (0 : Int)))
theorem wl20a (a23 : (List Int) → Option (Int)) (a56 : (List Int) → Option (List Bool)) (N : Nat) (r2 : List Bool) (m : Nat) (n6_a : Int) : R20_0 a23 a56 N (m + 1) (Sl20a r2 n6_a) = cond (decide ((w64 (n6_a + (1 : Int))) < (r2.length : Int))) (chk (decide (0 ≤ w64 (n6_a + (1 : Int)) ∧ w64 (n6_a + (1 : Int)) < (r2.length : Int))) (cond (r2.getD ((w64 (n6_a + (1 : Int))).toNat) false) ((R20_0 a23 a56 N m (Sl20a r2 (w64 (n6_a + (1 : Int))))))
      (some (n6_a, (0 : Int)))))
      (some (n6_a, (0 : Int))) := by kernel_rfl
theorem ql20a (a23 : (List Int) → Option (Int)) (a56 : (List Int) → Option (List Bool)) (N : Nat) (r2 : List Bool) : ∀ (m : Nat) (n6_a : Int), R20_0 a23 a56 N m (Sl20a r2 n6_a) = l20a a23 a56 N r2 m n6_a
        | 0, _ => rfl
        | m + 1, n6_a => by rw [wl20a]; simp only [l20a, ql20a a23 a56 N r2 m]
def m20 (a23 : (List Int) → Option (Int)) (a56 : (List Int) → Option (List Bool)) (N : Nat) (weights0 : List Int) : Option (Int × Int) :=
      (a23 weights0).bind fun r1 =>
      cond (r1 != (0 : Int)) (some ((0 : Int), r1))
      ((a56 weights0).bind fun r2 =>
      (l20a a23 a56 N r2 N (0 : Int)))
theorem wm20 (a23 : (List Int) → Option (Int)) (a56 : (List Int) → Option (List Bool)) (N : Nat) (weights0 : List Int) : callF (E20 a23 a56) lv20 N en20 c20 (resOf Try.f20) 28 [.dv (.sl (.int .i64)) weights0] [] dec20 = (a23 weights0).bind fun r1 =>
      cond (r1 != (0 : Int)) (some ((0 : Int), r1))
      ((a56 weights0).bind fun r2 =>
      (R20_0 a23 a56 N N (Sl20a r2 (0 : Int)))) := by kernel_rfl
theorem k20 (a23 : (List Int) → Option (Int)) (a56 : (List Int) → Option (List Bool)) (N : Nat) (weights0 : List Int) : callF (E20 a23 a56) lv20 N en20 c20 (resOf Try.f20) 28 [.dv (.sl (.int .i64)) weights0] [] dec20 = m20 a23 a56 N weights0 := by rw [wm20]; simp only [m20, ql20a]
theorem ok20 (a23 : (List Int) → Option (Int)) (a56 : (List Int) → Option (List Bool)) (h23 : FnOk Try.prog 23 (F23 a23)) (h56 : FnOk Try.prog 56 (F56 a56)) (a : (List Int) → Option (Int × Int)) (h : ∀ weights0 r, a weights0 = some r → (∃ N, m20 a23 a56 N weights0 = some r)) : FnOk Try.prog 20 (F20 a) := by
  intro args Of x hx
  simp only [F20] at hx
  split at hx
  · rename_i weights0
    obtain ⟨N, hN⟩ := h _ _ hx
    refine lifted (L := [(23, F23 a23), (56, F56 a56)]) (rc := nrc) (fz := nfz) (fn := Try.f20) (by kernel_rfl) (by kernel_rfl) (by kernel_rfl) (by kernel_rfl) rfl ?_ ((k20 a23 a56 N _).trans hN) ?_
    · intro p hp; simp only [List.mem_cons, List.not_mem_nil, or_false] at hp; rcases hp with rfl | rfl
      · exact h23
      · exact h56
    · intro l o hd
      simp only [dec20] at hd
      split at hd
      · obtain rfl := Option.some.inj hd; exact ⟨rfl, rfl⟩
      · cases hd
  · cases hx
def E25 (a58 : Int → Int → Int → Option (Bool)) : Env := mkE TI TY [(58, F58 a58)] nrc nfz
noncomputable def c25 : Code := bodyOf Try.f25
def nm25_0 : Norm := ⟨[0, 4, 5], [], [], []⟩
def lv25 : Nat → Option Norm := norms [(4, nm25_0)]
def en25 : End := ⟨[], ⟨[19, 20], [], [], []⟩⟩
def dec25 (l : List TV) (o : List (Nat × TO)) : Option (Int × Int) := match l, o with | [.dv (.int .i64) x0, .dv (.int .i64) x1], [] => some (x0, x1) | _, _ => none
noncomputable def K25_0 (a58 : Int → Int → Int → Option (Bool)) (N : Nat) : Kont (Int × Int) := kont (E25 a58) lv25 N c25 [1, 1, 1, 0, 0] (fin TI en25 (resOf Try.f25) dec25)
noncomputable def R25_0 (a58 : Int → Int → Int → Option (Bool)) (N : Nat) (m : Nat) : TS → Option (Int × Int) := loopK (den (E25 a58) lv25 N (sub c25 [1, 1, 1, 0, 0, 0])) (TS.norm nm25_0) (K25_0 a58 N) m
def Sl25a (load0 : Int) (k4_a : Int) (threes5_a : Int) : TS := ⟨slots 19 [(0, .dv (.int .i64) load0), (4, .dv (.int .i64) k4_a), (5, .dv (.int .i64) threes5_a)], []⟩
def l25a (a58 : Int → Int → Int → Option (Bool)) (N : Nat) (load0 : Int) : Nat → Int → Int → Option (Int × Int)
  | 0, _, _ => none
  | n + 1, k4_a, threes5_a => cond (decide ((w64 (Int.tdiv (w64 (threes5_a - (1 : Int))) (2 : Int))) < load0)) ((l25a a58 N load0 n (w64 (k4_a + (1 : Int))) (w64 ((3 : Int) * threes5_a))))
      (some (k4_a, (0 : Int)))
theorem wl25a (a58 : Int → Int → Int → Option (Bool)) (N : Nat) (load0 : Int) (m : Nat) (k4_a : Int) (threes5_a : Int) : R25_0 a58 N (m + 1) (Sl25a load0 k4_a threes5_a) = cond (decide ((w64 (Int.tdiv (w64 (threes5_a - (1 : Int))) (2 : Int))) < load0)) ((R25_0 a58 N m (Sl25a load0 (w64 (k4_a + (1 : Int))) (w64 ((3 : Int) * threes5_a)))))
      (some (k4_a, (0 : Int))) := by kernel_rfl
theorem ql25a (a58 : Int → Int → Int → Option (Bool)) (N : Nat) (load0 : Int) : ∀ (m : Nat) (k4_a : Int) (threes5_a : Int), R25_0 a58 N m (Sl25a load0 k4_a threes5_a) = l25a a58 N load0 m k4_a threes5_a
        | 0, _, _ => rfl
        | m + 1, k4_a, threes5_a => by rw [wl25a]; simp only [l25a, ql25a a58 N load0 m]
def m25 (a58 : Int → Int → Int → Option (Bool)) (N : Nat) (load0 : Int) : Option (Int × Int) :=
      (a58 load0 (1 : Int) (1093 : Int)).bind fun r1 =>
      cond (!r1) (some ((0 : Int), (3 : Int)))
      ((l25a a58 N load0 N (0 : Int) (1 : Int)))
theorem wm25 (a58 : Int → Int → Int → Option (Bool)) (N : Nat) (load0 : Int) : callF (E25 a58) lv25 N en25 c25 (resOf Try.f25) 18 [.dv (.int .i64) load0] [] dec25 = (a58 load0 (1 : Int) (1093 : Int)).bind fun r1 =>
      cond (!r1) (some ((0 : Int), (3 : Int)))
      ((R25_0 a58 N N (Sl25a load0 (0 : Int) (1 : Int)))) := by kernel_rfl
theorem k25 (a58 : Int → Int → Int → Option (Bool)) (N : Nat) (load0 : Int) : callF (E25 a58) lv25 N en25 c25 (resOf Try.f25) 18 [.dv (.int .i64) load0] [] dec25 = m25 a58 N load0 := by rw [wm25]; simp only [m25, ql25a]
theorem ok25 (a58 : Int → Int → Int → Option (Bool)) (h58 : FnOk Try.prog 58 (F58 a58)) (a : Int → Option (Int × Int)) (h : ∀ load0 r, a load0 = some r → (∃ N, m25 a58 N load0 = some r)) : FnOk Try.prog 25 (F25 a) := by
  intro args Of x hx
  simp only [F25] at hx
  split at hx
  · rename_i load0
    obtain ⟨N, hN⟩ := h _ _ hx
    refine lifted (L := [(58, F58 a58)]) (rc := nrc) (fz := nfz) (fn := Try.f25) (by kernel_rfl) (by kernel_rfl) (by kernel_rfl) (by kernel_rfl) rfl ?_ ((k25 a58 N _).trans hN) ?_
    · intro p hp; simp only [List.mem_cons, List.not_mem_nil, or_false] at hp; rcases hp with rfl; exact h58
    · intro l o hd
      simp only [dec25] at hd
      split at hd
      · obtain rfl := Option.some.inj hd; exact ⟨rfl, rfl⟩
      · cases hd
  · cases hx
def E3 (a16 : Option (Bool)) (a17 : (List Int) → Option (List Int × Int)) (a18 : (List Int) → Option (List Int × Int)) (a19 : (List Int) → Option (Int × Int)) (a20 : (List Int) → Option (Int × Int)) (a21 : (List Int) → (List Int) → Option (Bool)) (a22 : (List Int) → Option (Int)) (a23 : (List Int) → Option (Int)) (a24 : Int → Option (Int × Int)) (a25 : Int → Option (Int × Int)) (a26 : Int → Option (List Int × Int)) : Env := mkE TI TY [(16, F16 a16), (17, F17 a17), (18, F18 a18), (19, F19 a19), (20, F20 a20), (21, F21 a21), (22, F22 a22), (23, F23 a23), (24, F24 a24), (25, F25 a25), (26, F26 a26)] nrc nfz
noncomputable def c3 : Code := bodyOf Try.f3
def lv3 : Nat → Option Norm := norms []
def en3 : End := ⟨[], ⟨[121], [], [], []⟩⟩
def dec3 (l : List TV) (o : List (Nat × TO)) : Option (Bool) := match l, o with | [.dv (.bool) x0], [] => some (x0) | _, _ => none
def m3 (a16 : Option (Bool)) (a17 : (List Int) → Option (List Int × Int)) (a18 : (List Int) → Option (List Int × Int)) (a19 : (List Int) → Option (Int × Int)) (a20 : (List Int) → Option (Int × Int)) (a21 : (List Int) → (List Int) → Option (Bool)) (a22 : (List Int) → Option (Int)) (a23 : (List Int) → Option (Int)) (a24 : Int → Option (Int × Int)) (a25 : Int → Option (Int × Int)) (a26 : Int → Option (List Int × Int)) (N : Nat) (weights0 : List Int) (load1 : Int) : Option (Bool) :=
      cond (decide ((weights0.length : Int) > (30 : Int))) ((a16).bind fun r1 =>
      some r1)
      ((a17 weights0).bind fun r2 =>
      (a18 weights0).bind fun r3 =>
      (a19 weights0).bind fun r4 =>
      (a20 weights0).bind fun r5 =>
      (a21 r2.1 r3.1).bind fun r6 =>
      cond (!r6) (some false)
      (cond (r2.2 != r3.2) (some false)
      (cond (r4.1 != r5.1) (some false)
      (cond (r4.2 != r5.2) (some false)
      ((a22 weights0).bind fun r7 =>
      (a23 weights0).bind fun r8 =>
      cond (r7 != r8) (some false)
      ((a24 load1).bind fun r9 =>
      (a25 load1).bind fun r10 =>
      (a26 load1).bind fun r11 =>
      cond (r9.1 != r10.1) (some false)
      (cond (r9.2 != r10.2) (some false)
      (cond (r11.2 != r10.2) (some false)
      (cond ((r11.1.length : Int) != r10.1) (some false)
      ((a20 r11.1).bind fun r12 =>
      cond (r10.2 != (0 : Int)) ((a16).bind fun r13 =>
      some r13)
      (cond (r12.2 == (0 : Int)) (cond (decide (r12.1 ≥ load1)) ((a16).bind fun r14 =>
      some r14)
      (some false))
      (some false))))))))))))
theorem k3 (a16 : Option (Bool)) (a17 : (List Int) → Option (List Int × Int)) (a18 : (List Int) → Option (List Int × Int)) (a19 : (List Int) → Option (Int × Int)) (a20 : (List Int) → Option (Int × Int)) (a21 : (List Int) → (List Int) → Option (Bool)) (a22 : (List Int) → Option (Int)) (a23 : (List Int) → Option (Int)) (a24 : Int → Option (Int × Int)) (a25 : Int → Option (Int × Int)) (a26 : Int → Option (List Int × Int)) (N : Nat) (weights0 : List Int) (load1 : Int) : callF (E3 a16 a17 a18 a19 a20 a21 a22 a23 a24 a25 a26) lv3 N en3 c3 (resOf Try.f3) 119 [.dv (.sl (.int .i64)) weights0, .dv (.int .i64) load1] [] dec3 = m3 a16 a17 a18 a19 a20 a21 a22 a23 a24 a25 a26 N weights0 load1 := by kernel_rfl
theorem ok3 (a16 : Option (Bool)) (a17 : (List Int) → Option (List Int × Int)) (a18 : (List Int) → Option (List Int × Int)) (a19 : (List Int) → Option (Int × Int)) (a20 : (List Int) → Option (Int × Int)) (a21 : (List Int) → (List Int) → Option (Bool)) (a22 : (List Int) → Option (Int)) (a23 : (List Int) → Option (Int)) (a24 : Int → Option (Int × Int)) (a25 : Int → Option (Int × Int)) (a26 : Int → Option (List Int × Int)) (h16 : FnOk Try.prog 16 (F16 a16)) (h17 : FnOk Try.prog 17 (F17 a17)) (h18 : FnOk Try.prog 18 (F18 a18)) (h19 : FnOk Try.prog 19 (F19 a19)) (h20 : FnOk Try.prog 20 (F20 a20)) (h21 : FnOk Try.prog 21 (F21 a21)) (h22 : FnOk Try.prog 22 (F22 a22)) (h23 : FnOk Try.prog 23 (F23 a23)) (h24 : FnOk Try.prog 24 (F24 a24)) (h25 : FnOk Try.prog 25 (F25 a25)) (h26 : FnOk Try.prog 26 (F26 a26)) (a : (List Int) → Int → Option (Bool)) (h : ∀ weights0 load1 r, a weights0 load1 = some r → (∃ N, m3 a16 a17 a18 a19 a20 a21 a22 a23 a24 a25 a26 N weights0 load1 = some r)) : FnOk Try.prog 3 (F3 a) := by
  intro args Of x hx
  simp only [F3] at hx
  split at hx
  · rename_i weights0 load1
    obtain ⟨N, hN⟩ := h _ _ _ hx
    refine lifted (L := [(16, F16 a16), (17, F17 a17), (18, F18 a18), (19, F19 a19), (20, F20 a20), (21, F21 a21), (22, F22 a22), (23, F23 a23), (24, F24 a24), (25, F25 a25), (26, F26 a26)]) (rc := nrc) (fz := nfz) (fn := Try.f3) (by kernel_rfl) (by kernel_rfl) (by kernel_rfl) (by kernel_rfl) rfl ?_ ((k3 a16 a17 a18 a19 a20 a21 a22 a23 a24 a25 a26 N _ _).trans hN) ?_
    · intro p hp; simp only [List.mem_cons, List.not_mem_nil, or_false] at hp; rcases hp with rfl | rfl | rfl | rfl | rfl | rfl | rfl | rfl | rfl | rfl | rfl
      · exact h16
      · exact h17
      · exact h18
      · exact h19
      · exact h20
      · exact h21
      · exact h22
      · exact h23
      · exact h24
      · exact h25
      · exact h26
    · intro l o hd
      simp only [dec3] at hd
      split at hd
      · obtain rfl := Option.some.inj hd; exact ⟨rfl, rfl⟩
      · cases hd
  · cases hx
def E28 (a23 : (List Int) → Option (Int)) (a62 : Int → Option (List (List Int))) (a63 : (List Int) → (List Int) → Option (Int × Int)) : Env := mkE TI TY [(23, F23 a23), (62, F62 a62), (63, F63 a63)] nrc nfz
noncomputable def c28 : Code := bodyOf Try.f28
def nm28_0 : Norm := ⟨[0, 1, 7, 8, 9, 10], [], [], [(8, .sl (.int .i64))]⟩
def lv28 : Nat → Option Norm := norms [(8, nm28_0)]
def en28 : End := ⟨[(52, .sl (.int .i64))], ⟨[52, 53], [], [], []⟩⟩
def dec28 (l : List TV) (o : List (Nat × TO)) : Option (List Int × Int) := match l, o with | [.dv (.sl (.int .i64)) x0, .dv (.int .i64) x1], [] => some (x0, x1) | _, _ => none
noncomputable def K28_0 (a23 : (List Int) → Option (Int)) (a62 : Int → Option (List (List Int))) (a63 : (List Int) → (List Int) → Option (Int × Int)) (N : Nat) : Kont (List Int × Int) := kont (E28 a23 a62 a63) lv28 N c28 [1, 1, 1, 1, 1, 1, 0, 1, 0] (fin TI en28 (resOf Try.f28) dec28)
noncomputable def R28_0 (a23 : (List Int) → Option (Int)) (a62 : Int → Option (List (List Int))) (a63 : (List Int) → (List Int) → Option (Int × Int)) (N : Nat) (m : Nat) : TS → Option (List Int × Int) := loopK (den (E28 a23 a62 a63) lv28 N (sub c28 [1, 1, 1, 1, 1, 1, 0, 1, 0, 0])) (TS.norm nm28_0) (K28_0 a23 a62 a63 N) m
def Sl28a (weights0 : List Int) (load1 : Int) (r2 : List (List Int)) (best8_a : List Int) (fewest9_a : Int) (i10_a : Int) : TS := ⟨slots 52 [(0, .dv (.sl (.int .i64)) weights0), (1, .dv (.int .i64) load1), (7, .dv (.sl (.sl (.int .i64))) r2), (8, .dv (.sl (.int .i64)) best8_a), (9, .dv (.int .i64) fewest9_a), (10, .dv (.int .i64) i10_a)], []⟩
def l28a (a23 : (List Int) → Option (Int)) (a62 : Int → Option (List (List Int))) (a63 : (List Int) → (List Int) → Option (Int × Int)) (N : Nat) (weights0 : List Int) (load1 : Int) (r2 : List (List Int)) : Nat → (List Int) → Int → Int → Option (List Int × Int)
  | 0, _, _, _ => none
  | n + 1, best8_a, fewest9_a, i10_a => cond (decide (i10_a < (r2.length : Int))) (chk (decide (0 ≤ i10_a ∧ i10_a < (r2.length : Int))) ((a63 weights0 (r2.getD i10_a.toNat ([] : List Int))).bind fun r3 =>
      cond (r3.1 == load1) (cond (decide (r3.2 < fewest9_a)) (chk (decide (0 ≤ i10_a ∧ i10_a < (r2.length : Int))) ((l28a a23 a62 a63 N weights0 load1 r2 n (r2.getD i10_a.toNat ([] : List Int)) r3.2 (w64 (i10_a + (1 : Int))))))
      ((l28a a23 a62 a63 N weights0 load1 r2 n best8_a fewest9_a (w64 (i10_a + (1 : Int))))))
      ((l28a a23 a62 a63 N weights0 load1 r2 n best8_a fewest9_a (w64 (i10_a + (1 : Int)))))))
      (cond (decide (fewest9_a > (7 : Int))) (some (([] : List Int), (14 : Int)))
      (some (best8_a, (0 : Int))))
theorem wl28a (a23 : (List Int) → Option (Int)) (a62 : Int → Option (List (List Int))) (a63 : (List Int) → (List Int) → Option (Int × Int)) (N : Nat) (weights0 : List Int) (load1 : Int) (r2 : List (List Int)) (m : Nat) (best8_a : List Int) (fewest9_a : Int) (i10_a : Int) : R28_0 a23 a62 a63 N (m + 1) (Sl28a weights0 load1 r2 best8_a fewest9_a i10_a) = cond (decide (i10_a < (r2.length : Int))) (chk (decide (0 ≤ i10_a ∧ i10_a < (r2.length : Int))) ((a63 weights0 (r2.getD i10_a.toNat ([] : List Int))).bind fun r3 =>
      cond (r3.1 == load1) (cond (decide (r3.2 < fewest9_a)) (chk (decide (0 ≤ i10_a ∧ i10_a < (r2.length : Int))) ((R28_0 a23 a62 a63 N m (Sl28a weights0 load1 r2 (r2.getD i10_a.toNat ([] : List Int)) r3.2 (w64 (i10_a + (1 : Int)))))))
      ((R28_0 a23 a62 a63 N m (Sl28a weights0 load1 r2 best8_a fewest9_a (w64 (i10_a + (1 : Int)))))))
      ((R28_0 a23 a62 a63 N m (Sl28a weights0 load1 r2 best8_a fewest9_a (w64 (i10_a + (1 : Int))))))))
      (cond (decide (fewest9_a > (7 : Int))) (some (([] : List Int), (14 : Int)))
      (some (best8_a, (0 : Int)))) := by kernel_rfl
theorem ql28a (a23 : (List Int) → Option (Int)) (a62 : Int → Option (List (List Int))) (a63 : (List Int) → (List Int) → Option (Int × Int)) (N : Nat) (weights0 : List Int) (load1 : Int) (r2 : List (List Int)) : ∀ (m : Nat) (best8_a : List Int) (fewest9_a : Int) (i10_a : Int), R28_0 a23 a62 a63 N m (Sl28a weights0 load1 r2 best8_a fewest9_a i10_a) = l28a a23 a62 a63 N weights0 load1 r2 m best8_a fewest9_a i10_a
        | 0, _, _, _ => rfl
        | m + 1, best8_a, fewest9_a, i10_a => by rw [wl28a]; simp only [l28a, ql28a a23 a62 a63 N weights0 load1 r2 m]
def m28 (a23 : (List Int) → Option (Int)) (a62 : Int → Option (List (List Int))) (a63 : (List Int) → (List Int) → Option (Int × Int)) (N : Nat) (weights0 : List Int) (load1 : Int) : Option (List Int × Int) :=
      (a23 weights0).bind fun r1 =>
      cond (r1 != (0 : Int)) (some (([] : List Int), r1))
      ((a62 (weights0.length : Int)).bind fun r2 =>
      (l28a a23 a62 a63 N weights0 load1 r2 N ([] : List Int) (8 : Int) (0 : Int)))
theorem wm28 (a23 : (List Int) → Option (Int)) (a62 : Int → Option (List (List Int))) (a63 : (List Int) → (List Int) → Option (Int × Int)) (N : Nat) (weights0 : List Int) (load1 : Int) : callF (E28 a23 a62 a63) lv28 N en28 c28 (resOf Try.f28) 50 [.dv (.sl (.int .i64)) weights0, .dv (.int .i64) load1] [] dec28 = (a23 weights0).bind fun r1 =>
      cond (r1 != (0 : Int)) (some (([] : List Int), r1))
      ((a62 (weights0.length : Int)).bind fun r2 =>
      (R28_0 a23 a62 a63 N N (Sl28a weights0 load1 r2 ([] : List Int) (8 : Int) (0 : Int)))) := by kernel_rfl
theorem k28 (a23 : (List Int) → Option (Int)) (a62 : Int → Option (List (List Int))) (a63 : (List Int) → (List Int) → Option (Int × Int)) (N : Nat) (weights0 : List Int) (load1 : Int) : callF (E28 a23 a62 a63) lv28 N en28 c28 (resOf Try.f28) 50 [.dv (.sl (.int .i64)) weights0, .dv (.int .i64) load1] [] dec28 = m28 a23 a62 a63 N weights0 load1 := by rw [wm28]; simp only [m28, ql28a]
theorem ok28 (a23 : (List Int) → Option (Int)) (a62 : Int → Option (List (List Int))) (a63 : (List Int) → (List Int) → Option (Int × Int)) (h23 : FnOk Try.prog 23 (F23 a23)) (h62 : FnOk Try.prog 62 (F62 a62)) (h63 : FnOk Try.prog 63 (F63 a63)) (a : (List Int) → Int → Option (List Int × Int)) (h : ∀ weights0 load1 r, a weights0 load1 = some r → (∃ N, m28 a23 a62 a63 N weights0 load1 = some r)) : FnOk Try.prog 28 (F28 a) := by
  intro args Of x hx
  simp only [F28] at hx
  split at hx
  · rename_i weights0 load1
    obtain ⟨N, hN⟩ := h _ _ _ hx
    refine lifted (L := [(23, F23 a23), (62, F62 a62), (63, F63 a63)]) (rc := nrc) (fz := nfz) (fn := Try.f28) (by kernel_rfl) (by kernel_rfl) (by kernel_rfl) (by kernel_rfl) rfl ?_ ((k28 a23 a62 a63 N _ _).trans hN) ?_
    · intro p hp; simp only [List.mem_cons, List.not_mem_nil, or_false] at hp; rcases hp with rfl | rfl | rfl
      · exact h23
      · exact h62
      · exact h63
    · intro l o hd
      simp only [dec28] at hd
      split at hd
      · obtain rfl := Option.some.inj hd; exact ⟨rfl, rfl⟩
      · cases hd
  · cases hx
def E30 (a23 : (List Int) → Option (Int)) (a58 : Int → Int → Int → Option (Bool)) (a63 : (List Int) → (List Int) → Option (Int × Int)) : Env := mkE TI TY [(23, F23 a23), (58, F58 a58), (63, F63 a63)] nrc nfz
noncomputable def c30 : Code := bodyOf Try.f30
def nm30_0 : Norm := ⟨[0, 1, 2, 8], [], [], []⟩
def lv30 : Nat → Option Norm := norms [(7, nm30_0)]
def en30 : End := ⟨[], ⟨[42], [], [], []⟩⟩
def dec30 (l : List TV) (o : List (Nat × TO)) : Option (Int) := match l, o with | [.dv (.int .i64) x0], [] => some (x0) | _, _ => none
noncomputable def K30_0 (a23 : (List Int) → Option (Int)) (a58 : Int → Int → Int → Option (Bool)) (a63 : (List Int) → (List Int) → Option (Int × Int)) (N : Nat) : Kont (Int) := kont (E30 a23 a58 a63) lv30 N c30 [1, 1, 1, 1, 0, 1, 0] (fin TI en30 (resOf Try.f30) dec30)
noncomputable def R30_0 (a23 : (List Int) → Option (Int)) (a58 : Int → Int → Int → Option (Bool)) (a63 : (List Int) → (List Int) → Option (Int × Int)) (N : Nat) (m : Nat) : TS → Option (Int) := loopK (den (E30 a23 a58 a63) lv30 N (sub c30 [1, 1, 1, 1, 0, 1, 0, 0])) (TS.norm nm30_0) (K30_0 a23 a58 a63 N) m
def Sl30a (weights0 : List Int) (laying1 : List Int) (load2 : Int) (i8_a : Int) : TS := ⟨slots 42 [(0, .dv (.sl (.int .i64)) weights0), (1, .dv (.sl (.int .i64)) laying1), (2, .dv (.int .i64) load2), (8, .dv (.int .i64) i8_a)], []⟩
def l30a (a23 : (List Int) → Option (Int)) (a58 : Int → Int → Int → Option (Bool)) (a63 : (List Int) → (List Int) → Option (Int × Int)) (N : Nat) (weights0 : List Int) (laying1 : List Int) (load2 : Int) : Nat → Int → Option (Int)
  | 0, _ => none
  | n + 1, i8_a => cond (decide (i8_a < (laying1.length : Int))) (chk (decide (0 ≤ i8_a ∧ i8_a < (laying1.length : Int))) ((a58 (laying1.getD i8_a.toNat (0 : Int)) (-1 : Int) (1 : Int)).bind fun r2 =>
      cond (!r2) (some (9 : Int))
      ((l30a a23 a58 a63 N weights0 laying1 load2 n (w64 (i8_a + (1 : Int)))))))
      ((a63 weights0 laying1).bind fun r3 =>
      cond (r3.1 != load2) (some (13 : Int))
      (some (0 : Int)))
theorem wl30a (a23 : (List Int) → Option (Int)) (a58 : Int → Int → Int → Option (Bool)) (a63 : (List Int) → (List Int) → Option (Int × Int)) (N : Nat) (weights0 : List Int) (laying1 : List Int) (load2 : Int) (m : Nat) (i8_a : Int) : R30_0 a23 a58 a63 N (m + 1) (Sl30a weights0 laying1 load2 i8_a) = cond (decide (i8_a < (laying1.length : Int))) (chk (decide (0 ≤ i8_a ∧ i8_a < (laying1.length : Int))) ((a58 (laying1.getD i8_a.toNat (0 : Int)) (-1 : Int) (1 : Int)).bind fun r2 =>
      cond (!r2) (some (9 : Int))
      ((R30_0 a23 a58 a63 N m (Sl30a weights0 laying1 load2 (w64 (i8_a + (1 : Int))))))))
      ((a63 weights0 laying1).bind fun r3 =>
      cond (r3.1 != load2) (some (13 : Int))
      (some (0 : Int))) := by kernel_rfl
theorem ql30a (a23 : (List Int) → Option (Int)) (a58 : Int → Int → Int → Option (Bool)) (a63 : (List Int) → (List Int) → Option (Int × Int)) (N : Nat) (weights0 : List Int) (laying1 : List Int) (load2 : Int) : ∀ (m : Nat) (i8_a : Int), R30_0 a23 a58 a63 N m (Sl30a weights0 laying1 load2 i8_a) = l30a a23 a58 a63 N weights0 laying1 load2 m i8_a
        | 0, _ => rfl
        | m + 1, i8_a => by rw [wl30a]; simp only [l30a, ql30a a23 a58 a63 N weights0 laying1 load2 m]
def m30 (a23 : (List Int) → Option (Int)) (a58 : Int → Int → Int → Option (Bool)) (a63 : (List Int) → (List Int) → Option (Int × Int)) (N : Nat) (weights0 : List Int) (laying1 : List Int) (load2 : Int) : Option (Int) :=
      (a23 weights0).bind fun r1 =>
      cond (r1 != (0 : Int)) (some r1)
      (cond ((laying1.length : Int) != (weights0.length : Int)) (some (9 : Int))
      ((l30a a23 a58 a63 N weights0 laying1 load2 N (0 : Int))))
theorem wm30 (a23 : (List Int) → Option (Int)) (a58 : Int → Int → Int → Option (Bool)) (a63 : (List Int) → (List Int) → Option (Int × Int)) (N : Nat) (weights0 : List Int) (laying1 : List Int) (load2 : Int) : callF (E30 a23 a58 a63) lv30 N en30 c30 (resOf Try.f30) 39 [.dv (.sl (.int .i64)) weights0, .dv (.sl (.int .i64)) laying1, .dv (.int .i64) load2] [] dec30 = (a23 weights0).bind fun r1 =>
      cond (r1 != (0 : Int)) (some r1)
      (cond ((laying1.length : Int) != (weights0.length : Int)) (some (9 : Int))
      ((R30_0 a23 a58 a63 N N (Sl30a weights0 laying1 load2 (0 : Int))))) := by kernel_rfl
theorem k30 (a23 : (List Int) → Option (Int)) (a58 : Int → Int → Int → Option (Bool)) (a63 : (List Int) → (List Int) → Option (Int × Int)) (N : Nat) (weights0 : List Int) (laying1 : List Int) (load2 : Int) : callF (E30 a23 a58 a63) lv30 N en30 c30 (resOf Try.f30) 39 [.dv (.sl (.int .i64)) weights0, .dv (.sl (.int .i64)) laying1, .dv (.int .i64) load2] [] dec30 = m30 a23 a58 a63 N weights0 laying1 load2 := by rw [wm30]; simp only [m30, ql30a]
theorem ok30 (a23 : (List Int) → Option (Int)) (a58 : Int → Int → Int → Option (Bool)) (a63 : (List Int) → (List Int) → Option (Int × Int)) (h23 : FnOk Try.prog 23 (F23 a23)) (h58 : FnOk Try.prog 58 (F58 a58)) (h63 : FnOk Try.prog 63 (F63 a63)) (a : (List Int) → (List Int) → Int → Option (Int)) (h : ∀ weights0 laying1 load2 r, a weights0 laying1 load2 = some r → (∃ N, m30 a23 a58 a63 N weights0 laying1 load2 = some r)) : FnOk Try.prog 30 (F30 a) := by
  intro args Of x hx
  simp only [F30] at hx
  split at hx
  · rename_i weights0 laying1 load2
    obtain ⟨N, hN⟩ := h _ _ _ _ hx
    refine lifted (L := [(23, F23 a23), (58, F58 a58), (63, F63 a63)]) (rc := nrc) (fz := nfz) (fn := Try.f30) (by kernel_rfl) (by kernel_rfl) (by kernel_rfl) (by kernel_rfl) rfl ?_ ((k30 a23 a58 a63 N _ _ _).trans hN) ?_
    · intro p hp; simp only [List.mem_cons, List.not_mem_nil, or_false] at hp; rcases hp with rfl | rfl | rfl
      · exact h23
      · exact h58
      · exact h63
    · intro l o hd
      simp only [dec30] at hd
      split at hd
      · obtain rfl := Option.some.inj hd; exact ⟨rfl, rfl⟩
      · cases hd
  · cases hx
def E4 (a16 : Option (Bool)) (a21 : (List Int) → (List Int) → Option (Bool)) (a27 : (List Int) → Int → Option (List Int × Int)) (a28 : (List Int) → Int → Option (List Int × Int)) (a29 : (List Int) → (List Int) → Int → Option (Int)) (a30 : (List Int) → (List Int) → Int → Option (Int)) : Env := mkE TI TY [(16, F16 a16), (21, F21 a21), (27, F27 a27), (28, F28 a28), (29, F29 a29), (30, F30 a30)] nrc nfz
noncomputable def c4 : Code := bodyOf Try.f4
def lv4 : Nat → Option Norm := norms []
def en4 : End := ⟨[], ⟨[56], [], [], []⟩⟩
def dec4 (l : List TV) (o : List (Nat × TO)) : Option (Bool) := match l, o with | [.dv (.bool) x0], [] => some (x0) | _, _ => none
def m4 (a16 : Option (Bool)) (a21 : (List Int) → (List Int) → Option (Bool)) (a27 : (List Int) → Int → Option (List Int × Int)) (a28 : (List Int) → Int → Option (List Int × Int)) (a29 : (List Int) → (List Int) → Int → Option (Int)) (a30 : (List Int) → (List Int) → Int → Option (Int)) (N : Nat) (weights0 : List Int) (load1 : Int) (laying2 : List Int) (other3 : Int) : Option (Bool) :=
      cond (decide ((weights0.length : Int) > (30 : Int))) ((a16).bind fun r1 =>
      some r1)
      (cond (decide ((laying2.length : Int) > (30 : Int))) ((a16).bind fun r2 =>
      some r2)
      ((a27 weights0 load1).bind fun r3 =>
      (a28 weights0 load1).bind fun r4 =>
      (a21 r3.1 r4.1).bind fun r5 =>
      cond (r5) (cond (r3.2 == r4.2) ((a29 weights0 laying2 other3).bind fun r6 =>
      (a30 weights0 laying2 other3).bind fun r7 =>
      cond (r6 == r7) ((a16).bind fun r8 =>
      some r8)
      (some false))
      (some false))
      (some false)))
theorem k4 (a16 : Option (Bool)) (a21 : (List Int) → (List Int) → Option (Bool)) (a27 : (List Int) → Int → Option (List Int × Int)) (a28 : (List Int) → Int → Option (List Int × Int)) (a29 : (List Int) → (List Int) → Int → Option (Int)) (a30 : (List Int) → (List Int) → Int → Option (Int)) (N : Nat) (weights0 : List Int) (load1 : Int) (laying2 : List Int) (other3 : Int) : callF (E4 a16 a21 a27 a28 a29 a30) lv4 N en4 c4 (resOf Try.f4) 52 [.dv (.sl (.int .i64)) weights0, .dv (.int .i64) load1, .dv (.sl (.int .i64)) laying2, .dv (.int .i64) other3] [] dec4 = m4 a16 a21 a27 a28 a29 a30 N weights0 load1 laying2 other3 := by kernel_rfl
theorem ok4 (a16 : Option (Bool)) (a21 : (List Int) → (List Int) → Option (Bool)) (a27 : (List Int) → Int → Option (List Int × Int)) (a28 : (List Int) → Int → Option (List Int × Int)) (a29 : (List Int) → (List Int) → Int → Option (Int)) (a30 : (List Int) → (List Int) → Int → Option (Int)) (h16 : FnOk Try.prog 16 (F16 a16)) (h21 : FnOk Try.prog 21 (F21 a21)) (h27 : FnOk Try.prog 27 (F27 a27)) (h28 : FnOk Try.prog 28 (F28 a28)) (h29 : FnOk Try.prog 29 (F29 a29)) (h30 : FnOk Try.prog 30 (F30 a30)) (a : (List Int) → Int → (List Int) → Int → Option (Bool)) (h : ∀ weights0 load1 laying2 other3 r, a weights0 load1 laying2 other3 = some r → (∃ N, m4 a16 a21 a27 a28 a29 a30 N weights0 load1 laying2 other3 = some r)) : FnOk Try.prog 4 (F4 a) := by
  intro args Of x hx
  simp only [F4] at hx
  split at hx
  · rename_i weights0 load1 laying2 other3
    obtain ⟨N, hN⟩ := h _ _ _ _ _ hx
    refine lifted (L := [(16, F16 a16), (21, F21 a21), (27, F27 a27), (28, F28 a28), (29, F29 a29), (30, F30 a30)]) (rc := nrc) (fz := nfz) (fn := Try.f4) (by kernel_rfl) (by kernel_rfl) (by kernel_rfl) (by kernel_rfl) rfl ?_ ((k4 a16 a21 a27 a28 a29 a30 N _ _ _ _).trans hN) ?_
    · intro p hp; simp only [List.mem_cons, List.not_mem_nil, or_false] at hp; rcases hp with rfl | rfl | rfl | rfl | rfl | rfl
      · exact h16
      · exact h21
      · exact h27
      · exact h28
      · exact h29
      · exact h30
    · intro l o hd
      simp only [dec4] at hd
      split at hd
      · obtain rfl := Option.some.inj hd; exact ⟨rfl, rfl⟩
      · cases hd
  · cases hx
end Go.Proofs.Ytjcgjbdlgmbepaa
