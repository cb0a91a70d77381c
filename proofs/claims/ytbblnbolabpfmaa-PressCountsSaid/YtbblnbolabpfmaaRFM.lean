/-
  The functions that the law reaches, told as plain functions.
-/
import Derived.Test.YtbblnbolabpfmaaWM0
namespace Go.Proofs.Ytbblnbolabpfmaa
open Go.RowKit
set_option linter.unusedVariables false
def E15 : Env := mkE TI TY [] nrc nfz
noncomputable def c15 : Code := bodyOf Try.f15
def nm15_0 : Norm := ⟨[0, 4], [], [(.slot 3, 1003, .pair (.int .i64) (.pair (.int .i64) (.unit)))], []⟩
def lv15 : Nat → Option Norm := norms [(3, nm15_0)]
def en15 : End := ⟨[(19, .sl (.pair (.int .i64) (.pair (.int .i64) (.unit))))], ⟨[19], [], [], []⟩⟩
def dec15 (l : List TV) (o : List (Nat × TO)) : Option (List (Int × Int × Unit)) := match l, o with | [.dv (.sl (.pair (.int .i64) (.pair (.int .i64) (.unit)))) x0], [] => some (x0) | _, _ => none
noncomputable def K15_0 (N : Nat) : Kont (List (Int × Int × Unit)) := kont (E15) lv15 N c15 [1, 1, 0, 1, 0] (fin TI en15 (resOf Try.f15) dec15)
noncomputable def R15_0 (N : Nat) (m : Nat) : TS → Option (List (Int × Int × Unit)) := loopK (den (E15) lv15 N (sub c15 [1, 1, 0, 1, 0, 0])) (TS.norm nm15_0) (K15_0 N) m
def Sl15a (l0 : List (Int × Int × Unit)) (i4_a : Int) (out3_a : List (Int × Int × Unit)) : TS := ⟨slots 19 [(0, .dv (.sl (.pair (.int .i64) (.pair (.int .i64) (.unit)))) l0), (3, .row 1003), (4, .dv (.int .i64) i4_a)], [(1003, .row (.pair (.int .i64) (.pair (.int .i64) (.unit))) out3_a)]⟩
def l15a (N : Nat) (l0 : List (Int × Int × Unit)) : Nat → Int → (List (Int × Int × Unit)) → Option (List (Int × Int × Unit))
  | 0, _, _ => none
  | n + 1, i4_a, out3_a => cond (decide (i4_a < (l0.length : Int))) (chk (decide (0 ≤ i4_a ∧ i4_a < (l0.length : Int))) (chk (small (out3_a.length + 1) 16) ((l15a N l0 n (w64 (i4_a + (1 : Int))) (out3_a ++ ([l0.getD i4_a.toNat ((0 : Int), ((0 : Int), ()))] : List (Int × Int × Unit)))))))
      (some out3_a)
theorem wl15a (N : Nat) (l0 : List (Int × Int × Unit)) (m : Nat) (i4_a : Int) (out3_a : List (Int × Int × Unit)) : R15_0 N (m + 1) (Sl15a l0 i4_a out3_a) = cond (decide (i4_a < (l0.length : Int))) (chk (decide (0 ≤ i4_a ∧ i4_a < (l0.length : Int))) (chk (small (out3_a.length + 1) 16) ((R15_0 N m (Sl15a l0 (w64 (i4_a + (1 : Int))) (out3_a ++ ([l0.getD i4_a.toNat ((0 : Int), ((0 : Int), ()))] : List (Int × Int × Unit))))))))
      (some out3_a) := by kernel_rfl
theorem ql15a (N : Nat) (l0 : List (Int × Int × Unit)) : ∀ (m : Nat) (i4_a : Int) (out3_a : List (Int × Int × Unit)), R15_0 N m (Sl15a l0 i4_a out3_a) = l15a N l0 m i4_a out3_a
        | 0, _, _ => rfl
        | m + 1, i4_a, out3_a => by rw [wl15a]; simp only [l15a, ql15a N l0 m]
def m15 (N : Nat) (l0 : List (Int × Int × Unit)) : Option (List (Int × Int × Unit)) :=
      (l15a N l0 N (0 : Int) ([] : List (Int × Int × Unit)))
theorem wm15 (N : Nat) (l0 : List (Int × Int × Unit)) : callF (E15) lv15 N en15 c15 (resOf Try.f15) 18 [.dv (.sl (.pair (.int .i64) (.pair (.int .i64) (.unit)))) l0] [] dec15 = (R15_0 N N (Sl15a l0 (0 : Int) ([] : List (Int × Int × Unit)))) := by kernel_rfl
theorem k15 (N : Nat) (l0 : List (Int × Int × Unit)) : callF (E15) lv15 N en15 c15 (resOf Try.f15) 18 [.dv (.sl (.pair (.int .i64) (.pair (.int .i64) (.unit)))) l0] [] dec15 = m15 N l0 := by rw [wm15]; simp only [m15, ql15a]
theorem ok15 (a : (List (Int × Int × Unit)) → Option (List (Int × Int × Unit))) (h : ∀ l0 r, a l0 = some r → (∃ N, m15 N l0 = some r)) : FnOk Try.prog 15 (F15 a) := by
  intro args Of x hx
  simp only [F15] at hx
  split at hx
  · rename_i l0
    obtain ⟨N, hN⟩ := h _ _ hx
    refine lifted (L := []) (rc := nrc) (fz := nfz) (fn := Try.f15) (by kernel_rfl) (by kernel_rfl) (by kernel_rfl) (by kernel_rfl) rfl ?_ ((k15 N _).trans hN) ?_
    · intro p hp; cases hp
    · intro l o hd
      simp only [dec15] at hd
      split at hd
      · obtain rfl := Option.some.inj hd; exact ⟨rfl, rfl⟩
      · cases hd
  · cases hx
def E71 : Env := mkE TI TY [] nrc nfz
noncomputable def c71 : Code := bodyOf Try.f71
def lv71 : Nat → Option Norm := norms []
def en71 : End := ⟨[], ⟨[15], [], [], []⟩⟩
def dec71 (l : List TV) (o : List (Nat × TO)) : Option (Bool) := match l, o with | [.dv (.bool) x0], [] => some (x0) | _, _ => none
def m71 (N : Nat) (n0 : Int) (lo1 : Int) (hi2 : Int) : Option (Bool) :=
      cond (decide (n0 ≥ lo1)) (some (decide (n0 ≤ hi2)))
      (some false)
theorem k71 (N : Nat) (n0 : Int) (lo1 : Int) (hi2 : Int) : callF (E71) lv71 N en71 c71 (resOf Try.f71) 12 [.dv (.int .i64) n0, .dv (.int .i64) lo1, .dv (.int .i64) hi2] [] dec71 = m71 N n0 lo1 hi2 := by kernel_rfl
theorem ok71 (a : Int → Int → Int → Option (Bool)) (h : ∀ n0 lo1 hi2 r, a n0 lo1 hi2 = some r → (∃ N, m71 N n0 lo1 hi2 = some r)) : FnOk Try.prog 71 (F71 a) := by
  intro args Of x hx
  simp only [F71] at hx
  split at hx
  · rename_i n0 lo1 hi2
    obtain ⟨N, hN⟩ := h _ _ _ _ hx
    refine lifted (L := []) (rc := nrc) (fz := nfz) (fn := Try.f71) (by kernel_rfl) (by kernel_rfl) (by kernel_rfl) (by kernel_rfl) rfl ?_ ((k71 N _ _ _).trans hN) ?_
    · intro p hp; cases hp
    · intro l o hd
      simp only [dec71] at hd
      split at hd
      · obtain rfl := Option.some.inj hd; exact ⟨rfl, rfl⟩
      · cases hd
  · cases hx
def E51 (a71 : Int → Int → Int → Option (Bool)) : Env := mkE TI TY [(71, F71 a71)] nrc nfz
noncomputable def c51 : Code := bodyOf Try.f51
def lv51 : Nat → Option Norm := norms []
def en51 : End := ⟨[], ⟨[11], [], [], []⟩⟩
def dec51 (l : List TV) (o : List (Nat × TO)) : Option (Bool) := match l, o with | [.dv (.bool) x0], [] => some (x0) | _, _ => none
def m51 (a71 : Int → Int → Int → Option (Bool)) (N : Nat) (n0 : Int) (lo1 : Int) (hi2 : Int) : Option (Bool) :=
      (a71 n0 lo1 hi2).bind fun r1 =>
      some r1
theorem k51 (a71 : Int → Int → Int → Option (Bool)) (N : Nat) (n0 : Int) (lo1 : Int) (hi2 : Int) : callF (E51 a71) lv51 N en51 c51 (resOf Try.f51) 8 [.dv (.int .i64) n0, .dv (.int .i64) lo1, .dv (.int .i64) hi2] [] dec51 = m51 a71 N n0 lo1 hi2 := by kernel_rfl
theorem ok51 (a71 : Int → Int → Int → Option (Bool)) (h71 : FnOk Try.prog 71 (F71 a71)) (a : Int → Int → Int → Option (Bool)) (h : ∀ n0 lo1 hi2 r, a n0 lo1 hi2 = some r → (∃ N, m51 a71 N n0 lo1 hi2 = some r)) : FnOk Try.prog 51 (F51 a) := by
  intro args Of x hx
  simp only [F51] at hx
  split at hx
  · rename_i n0 lo1 hi2
    obtain ⟨N, hN⟩ := h _ _ _ _ hx
    refine lifted (L := [(71, F71 a71)]) (rc := nrc) (fz := nfz) (fn := Try.f51) (by kernel_rfl) (by kernel_rfl) (by kernel_rfl) (by kernel_rfl) rfl ?_ ((k51 a71 N _ _ _).trans hN) ?_
    · intro p hp; simp only [List.mem_cons, List.not_mem_nil, or_false] at hp; rcases hp with rfl; exact h71
    · intro l o hd
      simp only [dec51] at hd
      split at hd
      · obtain rfl := Option.some.inj hd; exact ⟨rfl, rfl⟩
      · cases hd
  · cases hx
def E24 (a51 : Int → Int → Int → Option (Bool)) : Env := mkE TI TY [(51, F51 a51)] nrc nfz
noncomputable def c24 : Code := bodyOf Try.f24
def nm24_0 : Norm := ⟨[0, 3], [], [], []⟩
def lv24 : Nat → Option Norm := norms [(6, nm24_0)]
def en24 : End := ⟨[], ⟨[32], [], [], []⟩⟩
def dec24 (l : List TV) (o : List (Nat × TO)) : Option (Int) := match l, o with | [.dv (.int .i64) x0], [] => some (x0) | _, _ => none
noncomputable def K24_0 (a51 : Int → Int → Int → Option (Bool)) (N : Nat) : Kont (Int) := kont (E24 a51) lv24 N c24 [1, 1, 1, 0, 1, 0] (fin TI en24 (resOf Try.f24) dec24)
noncomputable def R24_0 (a51 : Int → Int → Int → Option (Bool)) (N : Nat) (m : Nat) : TS → Option (Int) := loopK (den (E24 a51) lv24 N (sub c24 [1, 1, 1, 0, 1, 0, 0])) (TS.norm nm24_0) (K24_0 a51 N) m
def Sl24a (l0 : List (Int × Int × Unit)) (i3_a : Int) : TS := ⟨slots 32 [(0, .dv (.sl (.pair (.int .i64) (.pair (.int .i64) (.unit)))) l0), (3, .dv (.int .i64) i3_a)], []⟩
def l24a (a51 : Int → Int → Int → Option (Bool)) (N : Nat) (l0 : List (Int × Int × Unit)) : Nat → Int → Option (Int)
  | 0, _ => none
  | n + 1, i3_a => cond (decide (i3_a < (l0.length : Int))) (chk (decide (0 ≤ i3_a ∧ i3_a < (l0.length : Int))) ((a51 ((l0.getD i3_a.toNat ((0 : Int), ((0 : Int), ()))).1) (1 : Int) (30 : Int)).bind fun r1 =>
      cond (!r1) (some (4 : Int))
      (chk (decide (0 ≤ i3_a ∧ i3_a < (l0.length : Int))) ((a51 (((l0.getD i3_a.toNat ((0 : Int), ((0 : Int), ()))).2).1) (0 : Int) (10000 : Int)).bind fun r2 =>
      cond (!r2) (some (4 : Int))
      ((l24a a51 N l0 n (w64 (i3_a + (1 : Int)))))))))
      (some (0 : Int))
theorem wl24a (a51 : Int → Int → Int → Option (Bool)) (N : Nat) (l0 : List (Int × Int × Unit)) (m : Nat) (i3_a : Int) : R24_0 a51 N (m + 1) (Sl24a l0 i3_a) = cond (decide (i3_a < (l0.length : Int))) (chk (decide (0 ≤ i3_a ∧ i3_a < (l0.length : Int))) ((a51 ((l0.getD i3_a.toNat ((0 : Int), ((0 : Int), ()))).1) (1 : Int) (30 : Int)).bind fun r1 =>
      cond (!r1) (some (4 : Int))
      (chk (decide (0 ≤ i3_a ∧ i3_a < (l0.length : Int))) ((a51 (((l0.getD i3_a.toNat ((0 : Int), ((0 : Int), ()))).2).1) (0 : Int) (10000 : Int)).bind fun r2 =>
      cond (!r2) (some (4 : Int))
      ((R24_0 a51 N m (Sl24a l0 (w64 (i3_a + (1 : Int))))))))))
      (some (0 : Int)) := by kernel_rfl
theorem ql24a (a51 : Int → Int → Int → Option (Bool)) (N : Nat) (l0 : List (Int × Int × Unit)) : ∀ (m : Nat) (i3_a : Int), R24_0 a51 N m (Sl24a l0 i3_a) = l24a a51 N l0 m i3_a
        | 0, _ => rfl
        | m + 1, i3_a => by rw [wl24a]; simp only [l24a, ql24a a51 N l0 m]
def m24 (a51 : Int → Int → Int → Option (Bool)) (N : Nat) (l0 : List (Int × Int × Unit)) : Option (Int) :=
      cond ((l0.length : Int) == (0 : Int)) (some (1 : Int))
      (cond (decide ((l0.length : Int) > (12 : Int))) (some (2 : Int))
      ((l24a a51 N l0 N (0 : Int))))
theorem wm24 (a51 : Int → Int → Int → Option (Bool)) (N : Nat) (l0 : List (Int × Int × Unit)) : callF (E24 a51) lv24 N en24 c24 (resOf Try.f24) 31 [.dv (.sl (.pair (.int .i64) (.pair (.int .i64) (.unit)))) l0] [] dec24 = cond ((l0.length : Int) == (0 : Int)) (some (1 : Int))
      (cond (decide ((l0.length : Int) > (12 : Int))) (some (2 : Int))
      ((R24_0 a51 N N (Sl24a l0 (0 : Int))))) := by kernel_rfl
theorem k24 (a51 : Int → Int → Int → Option (Bool)) (N : Nat) (l0 : List (Int × Int × Unit)) : callF (E24 a51) lv24 N en24 c24 (resOf Try.f24) 31 [.dv (.sl (.pair (.int .i64) (.pair (.int .i64) (.unit)))) l0] [] dec24 = m24 a51 N l0 := by rw [wm24]; simp only [m24, ql24a]
theorem ok24 (a51 : Int → Int → Int → Option (Bool)) (h51 : FnOk Try.prog 51 (F51 a51)) (a : (List (Int × Int × Unit)) → Option (Int)) (h : ∀ l0 r, a l0 = some r → (∃ N, m24 a51 N l0 = some r)) : FnOk Try.prog 24 (F24 a) := by
  intro args Of x hx
  simp only [F24] at hx
  split at hx
  · rename_i l0
    obtain ⟨N, hN⟩ := h _ _ hx
    refine lifted (L := [(51, F51 a51)]) (rc := nrc) (fz := nfz) (fn := Try.f24) (by kernel_rfl) (by kernel_rfl) (by kernel_rfl) (by kernel_rfl) rfl ?_ ((k24 a51 N _).trans hN) ?_
    · intro p hp; simp only [List.mem_cons, List.not_mem_nil, or_false] at hp; rcases hp with rfl; exact h51
    · intro l o hd
      simp only [dec24] at hd
      split at hd
      · obtain rfl := Option.some.inj hd; exact ⟨rfl, rfl⟩
      · cases hd
  · cases hx
def E52 : Env := mkE TI TY [] nrc nfz
noncomputable def c52 : Code := bodyOf Try.f52
def nm52_0 : Norm := ⟨[0, 1, 5], [], [], []⟩
def nm52_1 : Norm := ⟨[0, 1, 5, 6, 7], [], [], []⟩
def lv52 : Nat → Option Norm := norms [(2, nm52_0), (6, nm52_1)]
def en52 : End := ⟨[], ⟨[38], [], [], []⟩⟩
def dec52 (l : List TV) (o : List (Nat × TO)) : Option (Int) := match l, o with | [.dv (.int .i64) x0], [] => some (x0) | _, _ => none
noncomputable def K52_0 (N : Nat) : Kont (Int) := kont (E52) lv52 N c52 [1, 0, 1, 0] (fin TI en52 (resOf Try.f52) dec52)
noncomputable def R52_0 (N : Nat) (m : Nat) : TS → Option (Int) := loopK (den (E52) lv52 N (sub c52 [1, 0, 1, 0, 0])) (TS.norm nm52_0) (K52_0 N) m
noncomputable def K52_1 (N : Nat) (T52_0 : TS → Option (Int)) : Kont (Int) := kont (E52) lv52 N (sub c52 [1, 0, 1, 0, 0]) [1, 0, 0, 1, 0, 1, 0] (kloop (TS.norm nm52_0) (K52_0 N) T52_0)
noncomputable def R52_1 (N : Nat) (T52_0 : TS → Option (Int)) (m : Nat) : TS → Option (Int) := loopK (den (E52) lv52 N (sub c52 [1, 0, 1, 0, 0, 1, 0, 0, 1, 0, 1, 0, 0])) (TS.norm nm52_1) (K52_1 N T52_0) m
def Sl52b (l0 : List (Int × Int × Unit)) (set1 : Int) (d5_a : Int) (n6_b : Int) (i7_b : Int) : TS := ⟨slots 38 [(0, .dv (.sl (.pair (.int .i64) (.pair (.int .i64) (.unit)))) l0), (1, .dv (.int .i64) set1), (5, .dv (.int .i64) d5_a), (6, .dv (.int .i64) n6_b), (7, .dv (.int .i64) i7_b)], []⟩
def Sl52a (l0 : List (Int × Int × Unit)) (set1 : Int) (d5_a : Int) : TS := ⟨slots 38 [(0, .dv (.sl (.pair (.int .i64) (.pair (.int .i64) (.unit)))) l0), (1, .dv (.int .i64) set1), (5, .dv (.int .i64) d5_a)], []⟩
def l52b (N : Nat) (l0 : List (Int × Int × Unit)) (set1 : Int) (d5_a : Int) (rec_l52a : Int → Option (Int)) : Nat → Int → Int → Option (Int)
  | 0, _, _ => none
  | n + 1, n6_b, i7_b => cond (decide (i7_b < (l0.length : Int))) (chk (decide (0 ≤ i7_b)) (cond ((bAnd .i64 (Int.fdiv set1 (2 ^ min (Int.toNat i7_b) 64)) (1 : Int)) == (1 : Int)) (chk (decide (0 ≤ i7_b ∧ i7_b < (l0.length : Int))) (cond (decide (((l0.getD i7_b.toNat ((0 : Int), ((0 : Int), ()))).1) ≤ d5_a)) ((l52b N l0 set1 d5_a rec_l52a n (w64 (n6_b + (1 : Int))) (w64 (i7_b + (1 : Int)))))
      ((l52b N l0 set1 d5_a rec_l52a n n6_b (w64 (i7_b + (1 : Int)))))))
      ((l52b N l0 set1 d5_a rec_l52a n n6_b (w64 (i7_b + (1 : Int)))))))
      (cond (decide (n6_b > d5_a)) (some d5_a)
      ((rec_l52a (w64 (d5_a + (1 : Int))))))
theorem wl52b (N : Nat) (l0 : List (Int × Int × Unit)) (set1 : Int) (d5_a : Int) (T52_0 : TS → Option (Int)) (m : Nat) (n6_b : Int) (i7_b : Int) : R52_1 N T52_0 (m + 1) (Sl52b l0 set1 d5_a n6_b i7_b) = cond (decide (i7_b < (l0.length : Int))) (chk (decide (0 ≤ i7_b)) (cond ((bAnd .i64 (Int.fdiv set1 (2 ^ min (Int.toNat i7_b) 64)) (1 : Int)) == (1 : Int)) (chk (decide (0 ≤ i7_b ∧ i7_b < (l0.length : Int))) (cond (decide (((l0.getD i7_b.toNat ((0 : Int), ((0 : Int), ()))).1) ≤ d5_a)) ((R52_1 N T52_0 m (Sl52b l0 set1 d5_a (w64 (n6_b + (1 : Int))) (w64 (i7_b + (1 : Int))))))
      ((R52_1 N T52_0 m (Sl52b l0 set1 d5_a n6_b (w64 (i7_b + (1 : Int))))))))
      ((R52_1 N T52_0 m (Sl52b l0 set1 d5_a n6_b (w64 (i7_b + (1 : Int))))))))
      (cond (decide (n6_b > d5_a)) (some d5_a)
      ((T52_0 (Sl52a l0 set1 (w64 (d5_a + (1 : Int))))))) := by kernel_rfl
theorem ql52b (N : Nat) (l0 : List (Int × Int × Unit)) (set1 : Int) (d5_a : Int) (T52_0 : TS → Option (Int)) : ∀ (m : Nat) (n6_b : Int) (i7_b : Int), R52_1 N T52_0 m (Sl52b l0 set1 d5_a n6_b i7_b) = l52b N l0 set1 d5_a (fun y0 => T52_0 (Sl52a l0 set1 y0)) m n6_b i7_b
        | 0, _, _ => rfl
        | m + 1, n6_b, i7_b => by rw [wl52b]; simp only [l52b, ql52b N l0 set1 d5_a T52_0 m]
def l52a (N : Nat) (l0 : List (Int × Int × Unit)) (set1 : Int) : Nat → Int → Option (Int)
  | 0, _ => none
  | n + 1, d5_a => cond (decide (d5_a ≤ (60 : Int))) ((l52b N l0 set1 d5_a (fun y0 => (l52a N l0 set1 n y0)) N (0 : Int) (0 : Int)))
      (some (0 : Int))
theorem wl52a (N : Nat) (l0 : List (Int × Int × Unit)) (set1 : Int) (m : Nat) (d5_a : Int) : R52_0 N (m + 1) (Sl52a l0 set1 d5_a) = cond (decide (d5_a ≤ (60 : Int))) ((R52_1 N (R52_0 N m) N (Sl52b l0 set1 d5_a (0 : Int) (0 : Int))))
      (some (0 : Int)) := by kernel_rfl
theorem ql52a (N : Nat) (l0 : List (Int × Int × Unit)) (set1 : Int) : ∀ (m : Nat) (d5_a : Int), R52_0 N m (Sl52a l0 set1 d5_a) = l52a N l0 set1 m d5_a
        | 0, _ => rfl
        | m + 1, d5_a => by rw [wl52a]; simp only [l52a, ql52b, ql52a N l0 set1 m]
def m52 (N : Nat) (l0 : List (Int × Int × Unit)) (set1 : Int) : Option (Int) :=
      (l52a N l0 set1 N (1 : Int))
theorem wm52 (N : Nat) (l0 : List (Int × Int × Unit)) (set1 : Int) : callF (E52) lv52 N en52 c52 (resOf Try.f52) 36 [.dv (.sl (.pair (.int .i64) (.pair (.int .i64) (.unit)))) l0, .dv (.int .i64) set1] [] dec52 = (R52_0 N N (Sl52a l0 set1 (1 : Int))) := by kernel_rfl
theorem k52 (N : Nat) (l0 : List (Int × Int × Unit)) (set1 : Int) : callF (E52) lv52 N en52 c52 (resOf Try.f52) 36 [.dv (.sl (.pair (.int .i64) (.pair (.int .i64) (.unit)))) l0, .dv (.int .i64) set1] [] dec52 = m52 N l0 set1 := by rw [wm52]; simp only [m52, ql52a]
theorem ok52 (a : (List (Int × Int × Unit)) → Int → Option (Int)) (h : ∀ l0 set1 r, a l0 set1 = some r → (∃ N, m52 N l0 set1 = some r)) : FnOk Try.prog 52 (F52 a) := by
  intro args Of x hx
  simp only [F52] at hx
  split at hx
  · rename_i l0 set1
    obtain ⟨N, hN⟩ := h _ _ _ hx
    refine lifted (L := []) (rc := nrc) (fz := nfz) (fn := Try.f52) (by kernel_rfl) (by kernel_rfl) (by kernel_rfl) (by kernel_rfl) rfl ?_ ((k52 N _ _).trans hN) ?_
    · intro p hp; cases hp
    · intro l o hd
      simp only [dec52] at hd
      split at hd
      · obtain rfl := Option.some.inj hd; exact ⟨rfl, rfl⟩
      · cases hd
  · cases hx
def E17 (a24 : (List (Int × Int × Unit)) → Option (Int)) (a51 : Int → Int → Int → Option (Bool)) (a52 : (List (Int × Int × Unit)) → Int → Option (Int)) : Env := mkE TI TY [(24, F24 a24), (51, F51 a51), (52, F52 a52)] nrc nfz
noncomputable def c17 : Code := bodyOf Try.f17
def nm17_0 : Norm := ⟨[0, 1, 7, 8], [], [], []⟩
def lv17 : Nat → Option Norm := norms [(6, nm17_0)]
def en17 : End := ⟨[], ⟨[57, 58], [], [], []⟩⟩
def dec17 (l : List TV) (o : List (Nat × TO)) : Option (Int × Int) := match l, o with | [.dv (.int .i64) x0, .dv (.int .i64) x1], [] => some (x0, x1) | _, _ => none
noncomputable def K17_0 (a24 : (List (Int × Int × Unit)) → Option (Int)) (a51 : Int → Int → Int → Option (Bool)) (a52 : (List (Int × Int × Unit)) → Int → Option (Int)) (N : Nat) : Kont (Int × Int) := kont (E17 a24 a51 a52) lv17 N c17 [1, 1, 1, 1, 0, 1, 0] (fin TI en17 (resOf Try.f17) dec17)
noncomputable def R17_0 (a24 : (List (Int × Int × Unit)) → Option (Int)) (a51 : Int → Int → Int → Option (Bool)) (a52 : (List (Int × Int × Unit)) → Int → Option (Int)) (N : Nat) (m : Nat) : TS → Option (Int × Int) := loopK (den (E17 a24 a51 a52) lv17 N (sub c17 [1, 1, 1, 1, 0, 1, 0, 0])) (TS.norm nm17_0) (K17_0 a24 a51 a52 N) m
def Sl17a (l0 : List (Int × Int × Unit)) (some1 : List Int) (set7_a : Int) (i8_a : Int) : TS := ⟨slots 57 [(0, .dv (.sl (.pair (.int .i64) (.pair (.int .i64) (.unit)))) l0), (1, .dv (.sl (.int .i64)) some1), (7, .dv (.int .i64) set7_a), (8, .dv (.int .i64) i8_a)], []⟩
def l17a (a24 : (List (Int × Int × Unit)) → Option (Int)) (a51 : Int → Int → Int → Option (Bool)) (a52 : (List (Int × Int × Unit)) → Int → Option (Int)) (N : Nat) (l0 : List (Int × Int × Unit)) (some1 : List Int) : Nat → Int → Int → Option (Int × Int)
  | 0, _, _ => none
  | n + 1, set7_a, i8_a => cond (decide (i8_a < (some1.length : Int))) (chk (decide (0 ≤ i8_a ∧ i8_a < (some1.length : Int))) ((a51 (some1.getD i8_a.toNat (0 : Int)) (0 : Int) (w64 ((l0.length : Int) - (1 : Int)))).bind fun r2 =>
      cond (!r2) (some ((0 : Int), (5 : Int)))
      (cond (decide (i8_a > (0 : Int))) (chk (decide (0 ≤ i8_a ∧ i8_a < (some1.length : Int))) (chk (decide (0 ≤ w64 (i8_a - (1 : Int)) ∧ w64 (i8_a - (1 : Int)) < (some1.length : Int))) (cond (decide ((some1.getD i8_a.toNat (0 : Int)) ≤ (some1.getD ((w64 (i8_a - (1 : Int))).toNat) (0 : Int)))) (some ((0 : Int), (7 : Int)))
      (chk (decide (0 ≤ i8_a ∧ i8_a < (some1.length : Int))) (chk (decide (0 ≤ some1.getD i8_a.toNat (0 : Int))) ((l17a a24 a51 a52 N l0 some1 n (bOr .i64 set7_a (IntKind.wrap .i64 ((1 : Int) * 2 ^ min (Int.toNat (some1.getD i8_a.toNat (0 : Int))) 64))) (w64 (i8_a + (1 : Int))))))))))
      (chk (decide (0 ≤ i8_a ∧ i8_a < (some1.length : Int))) (chk (decide (0 ≤ some1.getD i8_a.toNat (0 : Int))) ((l17a a24 a51 a52 N l0 some1 n (bOr .i64 set7_a (IntKind.wrap .i64 ((1 : Int) * 2 ^ min (Int.toNat (some1.getD i8_a.toNat (0 : Int))) 64))) (w64 (i8_a + (1 : Int))))))))))
      ((a52 l0 set7_a).bind fun r3 =>
      cond (r3 == (0 : Int)) (some ((0 : Int), (14 : Int)))
      (some (r3, (0 : Int))))
theorem wl17a (a24 : (List (Int × Int × Unit)) → Option (Int)) (a51 : Int → Int → Int → Option (Bool)) (a52 : (List (Int × Int × Unit)) → Int → Option (Int)) (N : Nat) (l0 : List (Int × Int × Unit)) (some1 : List Int) (m : Nat) (set7_a : Int) (i8_a : Int) : R17_0 a24 a51 a52 N (m + 1) (Sl17a l0 some1 set7_a i8_a) = cond (decide (i8_a < (some1.length : Int))) (chk (decide (0 ≤ i8_a ∧ i8_a < (some1.length : Int))) ((a51 (some1.getD i8_a.toNat (0 : Int)) (0 : Int) (w64 ((l0.length : Int) - (1 : Int)))).bind fun r2 =>
      cond (!r2) (some ((0 : Int), (5 : Int)))
      (cond (decide (i8_a > (0 : Int))) (chk (decide (0 ≤ i8_a ∧ i8_a < (some1.length : Int))) (chk (decide (0 ≤ w64 (i8_a - (1 : Int)) ∧ w64 (i8_a - (1 : Int)) < (some1.length : Int))) (cond (decide ((some1.getD i8_a.toNat (0 : Int)) ≤ (some1.getD ((w64 (i8_a - (1 : Int))).toNat) (0 : Int)))) (some ((0 : Int), (7 : Int)))
      (chk (decide (0 ≤ i8_a ∧ i8_a < (some1.length : Int))) (chk (decide (0 ≤ some1.getD i8_a.toNat (0 : Int))) ((R17_0 a24 a51 a52 N m (Sl17a l0 some1 (bOr .i64 set7_a (IntKind.wrap .i64 ((1 : Int) * 2 ^ min (Int.toNat (some1.getD i8_a.toNat (0 : Int))) 64))) (w64 (i8_a + (1 : Int)))))))))))
      (chk (decide (0 ≤ i8_a ∧ i8_a < (some1.length : Int))) (chk (decide (0 ≤ some1.getD i8_a.toNat (0 : Int))) ((R17_0 a24 a51 a52 N m (Sl17a l0 some1 (bOr .i64 set7_a (IntKind.wrap .i64 ((1 : Int) * 2 ^ min (Int.toNat (some1.getD i8_a.toNat (0 : Int))) 64))) (w64 (i8_a + (1 : Int)))))))))))
      ((a52 l0 set7_a).bind fun r3 =>
      cond (r3 == (0 : Int)) (some ((0 : Int), (14 : Int)))
      (some (r3, (0 : Int)))) := by kernel_rfl
theorem ql17a (a24 : (List (Int × Int × Unit)) → Option (Int)) (a51 : Int → Int → Int → Option (Bool)) (a52 : (List (Int × Int × Unit)) → Int → Option (Int)) (N : Nat) (l0 : List (Int × Int × Unit)) (some1 : List Int) : ∀ (m : Nat) (set7_a : Int) (i8_a : Int), R17_0 a24 a51 a52 N m (Sl17a l0 some1 set7_a i8_a) = l17a a24 a51 a52 N l0 some1 m set7_a i8_a
        | 0, _, _ => rfl
        | m + 1, set7_a, i8_a => by rw [wl17a]; simp only [l17a, ql17a a24 a51 a52 N l0 some1 m]
def m17 (a24 : (List (Int × Int × Unit)) → Option (Int)) (a51 : Int → Int → Int → Option (Bool)) (a52 : (List (Int × Int × Unit)) → Int → Option (Int)) (N : Nat) (l0 : List (Int × Int × Unit)) (some1 : List Int) : Option (Int × Int) :=
      (a24 l0).bind fun r1 =>
      cond (r1 != (0 : Int)) (some ((0 : Int), r1))
      ((l17a a24 a51 a52 N l0 some1 N (0 : Int) (0 : Int)))
theorem wm17 (a24 : (List (Int × Int × Unit)) → Option (Int)) (a51 : Int → Int → Int → Option (Bool)) (a52 : (List (Int × Int × Unit)) → Int → Option (Int)) (N : Nat) (l0 : List (Int × Int × Unit)) (some1 : List Int) : callF (E17 a24 a51 a52) lv17 N en17 c17 (resOf Try.f17) 55 [.dv (.sl (.pair (.int .i64) (.pair (.int .i64) (.unit)))) l0, .dv (.sl (.int .i64)) some1] [] dec17 = (a24 l0).bind fun r1 =>
      cond (r1 != (0 : Int)) (some ((0 : Int), r1))
      ((R17_0 a24 a51 a52 N N (Sl17a l0 some1 (0 : Int) (0 : Int)))) := by kernel_rfl
theorem k17 (a24 : (List (Int × Int × Unit)) → Option (Int)) (a51 : Int → Int → Int → Option (Bool)) (a52 : (List (Int × Int × Unit)) → Int → Option (Int)) (N : Nat) (l0 : List (Int × Int × Unit)) (some1 : List Int) : callF (E17 a24 a51 a52) lv17 N en17 c17 (resOf Try.f17) 55 [.dv (.sl (.pair (.int .i64) (.pair (.int .i64) (.unit)))) l0, .dv (.sl (.int .i64)) some1] [] dec17 = m17 a24 a51 a52 N l0 some1 := by rw [wm17]; simp only [m17, ql17a]
theorem ok17 (a24 : (List (Int × Int × Unit)) → Option (Int)) (a51 : Int → Int → Int → Option (Bool)) (a52 : (List (Int × Int × Unit)) → Int → Option (Int)) (h24 : FnOk Try.prog 24 (F24 a24)) (h51 : FnOk Try.prog 51 (F51 a51)) (h52 : FnOk Try.prog 52 (F52 a52)) (a : (List (Int × Int × Unit)) → (List Int) → Option (Int × Int)) (h : ∀ l0 some1 r, a l0 some1 = some r → (∃ N, m17 a24 a51 a52 N l0 some1 = some r)) : FnOk Try.prog 17 (F17 a) := by
  intro args Of x hx
  simp only [F17] at hx
  split at hx
  · rename_i l0 some1
    obtain ⟨N, hN⟩ := h _ _ _ hx
    refine lifted (L := [(24, F24 a24), (51, F51 a51), (52, F52 a52)]) (rc := nrc) (fz := nfz) (fn := Try.f17) (by kernel_rfl) (by kernel_rfl) (by kernel_rfl) (by kernel_rfl) rfl ?_ ((k17 a24 a51 a52 N _ _).trans hN) ?_
    · intro p hp; simp only [List.mem_cons, List.not_mem_nil, or_false] at hp; rcases hp with rfl | rfl | rfl
      · exact h24
      · exact h51
      · exact h52
    · intro l o hd
      simp only [dec17] at hd
      split at hd
      · obtain rfl := Option.some.inj hd; exact ⟨rfl, rfl⟩
      · cases hd
  · cases hx
def E75 : Env := mkE TI TY [] nrc nfz
noncomputable def c75 : Code := bodyOf Try.f75
def nm75_0 : Norm := ⟨[0, 1, 5, 6], [], [], []⟩
def lv75 : Nat → Option Norm := norms [(3, nm75_0)]
def en75 : End := ⟨[], ⟨[26], [], [], []⟩⟩
def dec75 (l : List TV) (o : List (Nat × TO)) : Option (Int) := match l, o with | [.dv (.int .i64) x0], [] => some (x0) | _, _ => none
noncomputable def K75_0 (N : Nat) : Kont (Int) := kont (E75) lv75 N c75 [1, 1, 0, 1, 0] (fin TI en75 (resOf Try.f75) dec75)
noncomputable def R75_0 (N : Nat) (m : Nat) : TS → Option (Int) := loopK (den (E75) lv75 N (sub c75 [1, 1, 0, 1, 0, 0])) (TS.norm nm75_0) (K75_0 N) m
def Sl75a (l0 : List (Int × Int × Unit)) (set1 : Int) (n5_a : Int) (i6_a : Int) : TS := ⟨slots 26 [(0, .dv (.sl (.pair (.int .i64) (.pair (.int .i64) (.unit)))) l0), (1, .dv (.int .i64) set1), (5, .dv (.int .i64) n5_a), (6, .dv (.int .i64) i6_a)], []⟩
def l75a (N : Nat) (l0 : List (Int × Int × Unit)) (set1 : Int) : Nat → Int → Int → Option (Int)
  | 0, _, _ => none
  | n + 1, n5_a, i6_a => cond (decide (i6_a < (l0.length : Int))) (chk (decide (0 ≤ i6_a)) (cond ((bAnd .i64 (Int.fdiv set1 (2 ^ min (Int.toNat i6_a) 64)) (1 : Int)) == (0 : Int)) (chk (decide (0 ≤ i6_a ∧ i6_a < (l0.length : Int))) ((l75a N l0 set1 n (w64 (n5_a + (((l0.getD i6_a.toNat ((0 : Int), ((0 : Int), ()))).2).1))) (w64 (i6_a + (1 : Int))))))
      ((l75a N l0 set1 n n5_a (w64 (i6_a + (1 : Int)))))))
      (some n5_a)
theorem wl75a (N : Nat) (l0 : List (Int × Int × Unit)) (set1 : Int) (m : Nat) (n5_a : Int) (i6_a : Int) : R75_0 N (m + 1) (Sl75a l0 set1 n5_a i6_a) = cond (decide (i6_a < (l0.length : Int))) (chk (decide (0 ≤ i6_a)) (cond ((bAnd .i64 (Int.fdiv set1 (2 ^ min (Int.toNat i6_a) 64)) (1 : Int)) == (0 : Int)) (chk (decide (0 ≤ i6_a ∧ i6_a < (l0.length : Int))) ((R75_0 N m (Sl75a l0 set1 (w64 (n5_a + (((l0.getD i6_a.toNat ((0 : Int), ((0 : Int), ()))).2).1))) (w64 (i6_a + (1 : Int)))))))
      ((R75_0 N m (Sl75a l0 set1 n5_a (w64 (i6_a + (1 : Int))))))))
      (some n5_a) := by kernel_rfl
theorem ql75a (N : Nat) (l0 : List (Int × Int × Unit)) (set1 : Int) : ∀ (m : Nat) (n5_a : Int) (i6_a : Int), R75_0 N m (Sl75a l0 set1 n5_a i6_a) = l75a N l0 set1 m n5_a i6_a
        | 0, _, _ => rfl
        | m + 1, n5_a, i6_a => by rw [wl75a]; simp only [l75a, ql75a N l0 set1 m]
def m75 (N : Nat) (l0 : List (Int × Int × Unit)) (set1 : Int) : Option (Int) :=
      (l75a N l0 set1 N (0 : Int) (0 : Int))
theorem wm75 (N : Nat) (l0 : List (Int × Int × Unit)) (set1 : Int) : callF (E75) lv75 N en75 c75 (resOf Try.f75) 24 [.dv (.sl (.pair (.int .i64) (.pair (.int .i64) (.unit)))) l0, .dv (.int .i64) set1] [] dec75 = (R75_0 N N (Sl75a l0 set1 (0 : Int) (0 : Int))) := by kernel_rfl
theorem k75 (N : Nat) (l0 : List (Int × Int × Unit)) (set1 : Int) : callF (E75) lv75 N en75 c75 (resOf Try.f75) 24 [.dv (.sl (.pair (.int .i64) (.pair (.int .i64) (.unit)))) l0, .dv (.int .i64) set1] [] dec75 = m75 N l0 set1 := by rw [wm75]; simp only [m75, ql75a]
theorem ok75 (a : (List (Int × Int × Unit)) → Int → Option (Int)) (h : ∀ l0 set1 r, a l0 set1 = some r → (∃ N, m75 N l0 set1 = some r)) : FnOk Try.prog 75 (F75 a) := by
  intro args Of x hx
  simp only [F75] at hx
  split at hx
  · rename_i l0 set1
    obtain ⟨N, hN⟩ := h _ _ _ hx
    refine lifted (L := []) (rc := nrc) (fz := nfz) (fn := Try.f75) (by kernel_rfl) (by kernel_rfl) (by kernel_rfl) (by kernel_rfl) rfl ?_ ((k75 N _ _).trans hN) ?_
    · intro p hp; cases hp
    · intro l o hd
      simp only [dec75] at hd
      split at hd
      · obtain rfl := Option.some.inj hd; exact ⟨rfl, rfl⟩
      · cases hd
  · cases hx
def E54 (a52 : (List (Int × Int × Unit)) → Int → Option (Int)) (a75 : (List (Int × Int × Unit)) → Int → Option (Int)) : Env := mkE TI TY [(52, F52 a52), (75, F75 a75)] nrc nfz
noncomputable def c54 : Code := bodyOf Try.f54
def nm54_0 : Norm := ⟨[0, 4, 6], [], [(.slot 5, 1005, .int .i64)], []⟩
def lv54 : Nat → Option Norm := norms [(4, nm54_0)]
def en54 : End := ⟨[(40, .sl (.int .i64))], ⟨[39, 40], [], [], []⟩⟩
def dec54 (l : List TV) (o : List (Nat × TO)) : Option (Int × List Int) := match l, o with | [.dv (.int .i64) x0, .dv (.sl (.int .i64)) x1], [] => some (x0, x1) | _, _ => none
noncomputable def K54_0 (a52 : (List (Int × Int × Unit)) → Int → Option (Int)) (a75 : (List (Int × Int × Unit)) → Int → Option (Int)) (N : Nat) : Kont (Int × List Int) := kont (E54 a52 a75) lv54 N c54 [1, 1, 1, 0, 1, 0] (fin TI en54 (resOf Try.f54) dec54)
noncomputable def R54_0 (a52 : (List (Int × Int × Unit)) → Int → Option (Int)) (a75 : (List (Int × Int × Unit)) → Int → Option (Int)) (N : Nat) (m : Nat) : TS → Option (Int × List Int) := loopK (den (E54 a52 a75) lv54 N (sub c54 [1, 1, 1, 0, 1, 0, 0])) (TS.norm nm54_0) (K54_0 a52 a75 N) m
def Sl54a (l0 : List (Int × Int × Unit)) (least4_a : Int) (set6_a : Int) (sets5_a : List Int) : TS := ⟨slots 39 [(0, .dv (.sl (.pair (.int .i64) (.pair (.int .i64) (.unit)))) l0), (4, .dv (.int .i64) least4_a), (5, .row 1005), (6, .dv (.int .i64) set6_a)], [(1005, .row (.int .i64) sets5_a)]⟩
def l54a (a52 : (List (Int × Int × Unit)) → Int → Option (Int)) (a75 : (List (Int × Int × Unit)) → Int → Option (Int)) (N : Nat) (l0 : List (Int × Int × Unit)) : Nat → Int → Int → (List Int) → Option (Int × List Int)
  | 0, _, _, _ => none
  | n + 1, least4_a, set6_a, sets5_a => chk (decide (0 ≤ (l0.length : Int))) (cond (decide (set6_a < (IntKind.wrap .i64 ((1 : Int) * 2 ^ min (Int.toNat (l0.length : Int)) 64)))) ((a75 l0 set6_a).bind fun r2 =>
      cond (decide (r2 > least4_a)) ((l54a a52 a75 N l0 n least4_a (w64 (set6_a + (1 : Int))) sets5_a))
      ((a52 l0 set6_a).bind fun r3 =>
      cond (decide (r3 > (0 : Int))) ((l54a a52 a75 N l0 n least4_a (w64 (set6_a + (1 : Int))) sets5_a))
      (cond (decide (r2 < least4_a)) ((l54a a52 a75 N l0 n r2 (w64 (set6_a + (1 : Int))) ([set6_a] : List Int)))
      (chk (small (sets5_a.length + 1) 8) ((l54a a52 a75 N l0 n least4_a (w64 (set6_a + (1 : Int))) (sets5_a ++ ([set6_a] : List Int))))))))
      (some (least4_a, sets5_a)))
theorem wl54a (a52 : (List (Int × Int × Unit)) → Int → Option (Int)) (a75 : (List (Int × Int × Unit)) → Int → Option (Int)) (N : Nat) (l0 : List (Int × Int × Unit)) (m : Nat) (least4_a : Int) (set6_a : Int) (sets5_a : List Int) : R54_0 a52 a75 N (m + 1) (Sl54a l0 least4_a set6_a sets5_a) = chk (decide (0 ≤ (l0.length : Int))) (cond (decide (set6_a < (IntKind.wrap .i64 ((1 : Int) * 2 ^ min (Int.toNat (l0.length : Int)) 64)))) ((a75 l0 set6_a).bind fun r2 =>
      cond (decide (r2 > least4_a)) ((R54_0 a52 a75 N m (Sl54a l0 least4_a (w64 (set6_a + (1 : Int))) sets5_a)))
      ((a52 l0 set6_a).bind fun r3 =>
      cond (decide (r3 > (0 : Int))) ((R54_0 a52 a75 N m (Sl54a l0 least4_a (w64 (set6_a + (1 : Int))) sets5_a)))
      (cond (decide (r2 < least4_a)) ((R54_0 a52 a75 N m (Sl54a l0 r2 (w64 (set6_a + (1 : Int))) ([set6_a] : List Int))))
      (chk (small (sets5_a.length + 1) 8) ((R54_0 a52 a75 N m (Sl54a l0 least4_a (w64 (set6_a + (1 : Int))) (sets5_a ++ ([set6_a] : List Int)))))))))
      (some (least4_a, sets5_a))) := by kernel_rfl
theorem ql54a (a52 : (List (Int × Int × Unit)) → Int → Option (Int)) (a75 : (List (Int × Int × Unit)) → Int → Option (Int)) (N : Nat) (l0 : List (Int × Int × Unit)) : ∀ (m : Nat) (least4_a : Int) (set6_a : Int) (sets5_a : List Int), R54_0 a52 a75 N m (Sl54a l0 least4_a set6_a sets5_a) = l54a a52 a75 N l0 m least4_a set6_a sets5_a
        | 0, _, _, _ => rfl
        | m + 1, least4_a, set6_a, sets5_a => by rw [wl54a]; simp only [l54a, ql54a a52 a75 N l0 m]
def m54 (a52 : (List (Int × Int × Unit)) → Int → Option (Int)) (a75 : (List (Int × Int × Unit)) → Int → Option (Int)) (N : Nat) (l0 : List (Int × Int × Unit)) : Option (Int × List Int) :=
      (a75 l0 (0 : Int)).bind fun r1 =>
      (l54a a52 a75 N l0 N r1 (0 : Int) ([] : List Int))
theorem wm54 (a52 : (List (Int × Int × Unit)) → Int → Option (Int)) (a75 : (List (Int × Int × Unit)) → Int → Option (Int)) (N : Nat) (l0 : List (Int × Int × Unit)) : callF (E54 a52 a75) lv54 N en54 c54 (resOf Try.f54) 38 [.dv (.sl (.pair (.int .i64) (.pair (.int .i64) (.unit)))) l0] [] dec54 = (a75 l0 (0 : Int)).bind fun r1 =>
      (R54_0 a52 a75 N N (Sl54a l0 r1 (0 : Int) ([] : List Int))) := by kernel_rfl
theorem k54 (a52 : (List (Int × Int × Unit)) → Int → Option (Int)) (a75 : (List (Int × Int × Unit)) → Int → Option (Int)) (N : Nat) (l0 : List (Int × Int × Unit)) : callF (E54 a52 a75) lv54 N en54 c54 (resOf Try.f54) 38 [.dv (.sl (.pair (.int .i64) (.pair (.int .i64) (.unit)))) l0] [] dec54 = m54 a52 a75 N l0 := by rw [wm54]; simp only [m54, ql54a]
theorem ok54 (a52 : (List (Int × Int × Unit)) → Int → Option (Int)) (a75 : (List (Int × Int × Unit)) → Int → Option (Int)) (h52 : FnOk Try.prog 52 (F52 a52)) (h75 : FnOk Try.prog 75 (F75 a75)) (a : (List (Int × Int × Unit)) → Option (Int × List Int)) (h : ∀ l0 r, a l0 = some r → (∃ N, m54 a52 a75 N l0 = some r)) : FnOk Try.prog 54 (F54 a) := by
  intro args Of x hx
  simp only [F54] at hx
  split at hx
  · rename_i l0
    obtain ⟨N, hN⟩ := h _ _ hx
    refine lifted (L := [(52, F52 a52), (75, F75 a75)]) (rc := nrc) (fz := nfz) (fn := Try.f54) (by kernel_rfl) (by kernel_rfl) (by kernel_rfl) (by kernel_rfl) rfl ?_ ((k54 a52 a75 N _).trans hN) ?_
    · intro p hp; simp only [List.mem_cons, List.not_mem_nil, or_false] at hp; rcases hp with rfl | rfl
      · exact h52
      · exact h75
    · intro l o hd
      simp only [dec54] at hd
      split at hd
      · obtain rfl := Option.some.inj hd; exact ⟨rfl, rfl⟩
      · cases hd
  · cases hx
def E19 (a24 : (List (Int × Int × Unit)) → Option (Int)) (a54 : (List (Int × Int × Unit)) → Option (Int × List Int)) : Env := mkE TI TY [(24, F24 a24), (54, F54 a54)] nrc nfz
noncomputable def c19 : Code := bodyOf Try.f19
def lv19 : Nat → Option Norm := norms []
def en19 : End := ⟨[], ⟨[18, 19], [], [], []⟩⟩
def dec19 (l : List TV) (o : List (Nat × TO)) : Option (Int × Int) := match l, o with | [.dv (.int .i64) x0, .dv (.int .i64) x1], [] => some (x0, x1) | _, _ => none
def m19 (a24 : (List (Int × Int × Unit)) → Option (Int)) (a54 : (List (Int × Int × Unit)) → Option (Int × List Int)) (N : Nat) (l0 : List (Int × Int × Unit)) : Option (Int × Int) :=
      (a24 l0).bind fun r1 =>
      cond (r1 != (0 : Int)) (some ((0 : Int), r1))
      ((a54 l0).bind fun r2 =>
      some (r2.1, (0 : Int)))
theorem k19 (a24 : (List (Int × Int × Unit)) → Option (Int)) (a54 : (List (Int × Int × Unit)) → Option (Int × List Int)) (N : Nat) (l0 : List (Int × Int × Unit)) : callF (E19 a24 a54) lv19 N en19 c19 (resOf Try.f19) 17 [.dv (.sl (.pair (.int .i64) (.pair (.int .i64) (.unit)))) l0] [] dec19 = m19 a24 a54 N l0 := by kernel_rfl
theorem ok19 (a24 : (List (Int × Int × Unit)) → Option (Int)) (a54 : (List (Int × Int × Unit)) → Option (Int × List Int)) (h24 : FnOk Try.prog 24 (F24 a24)) (h54 : FnOk Try.prog 54 (F54 a54)) (a : (List (Int × Int × Unit)) → Option (Int × Int)) (h : ∀ l0 r, a l0 = some r → (∃ N, m19 a24 a54 N l0 = some r)) : FnOk Try.prog 19 (F19 a) := by
  intro args Of x hx
  simp only [F19] at hx
  split at hx
  · rename_i l0
    obtain ⟨N, hN⟩ := h _ _ hx
    refine lifted (L := [(24, F24 a24), (54, F54 a54)]) (rc := nrc) (fz := nfz) (fn := Try.f19) (by kernel_rfl) (by kernel_rfl) (by kernel_rfl) (by kernel_rfl) rfl ?_ ((k19 a24 a54 N _).trans hN) ?_
    · intro p hp; simp only [List.mem_cons, List.not_mem_nil, or_false] at hp; rcases hp with rfl | rfl
      · exact h24
      · exact h54
    · intro l o hd
      simp only [dec19] at hd
      split at hd
      · obtain rfl := Option.some.inj hd; exact ⟨rfl, rfl⟩
      · cases hd
  · cases hx
def E56 : Env := mkE TI TY [] nrc nfz
noncomputable def c56 : Code := bodyOf Try.f56
def nm56_0 : Norm := ⟨[0, 4], [], [(.slot 3, 1003, .int .i64)], []⟩
def lv56 : Nat → Option Norm := norms [(3, nm56_0)]
def en56 : End := ⟨[(19, .sl (.int .i64))], ⟨[19], [], [], []⟩⟩
def dec56 (l : List TV) (o : List (Nat × TO)) : Option (List Int) := match l, o with | [.dv (.sl (.int .i64)) x0], [] => some (x0) | _, _ => none
noncomputable def K56_0 (N : Nat) : Kont (List Int) := kont (E56) lv56 N c56 [1, 1, 0, 1, 0] (fin TI en56 (resOf Try.f56) dec56)
noncomputable def R56_0 (N : Nat) (m : Nat) : TS → Option (List Int) := loopK (den (E56) lv56 N (sub c56 [1, 1, 0, 1, 0, 0])) (TS.norm nm56_0) (K56_0 N) m
def Sl56a (set0 : Int) (i4_a : Int) (out3_a : List Int) : TS := ⟨slots 19 [(0, .dv (.int .i64) set0), (3, .row 1003), (4, .dv (.int .i64) i4_a)], [(1003, .row (.int .i64) out3_a)]⟩
def l56a (N : Nat) (set0 : Int) : Nat → Int → (List Int) → Option (List Int)
  | 0, _, _ => none
  | n + 1, i4_a, out3_a => cond (decide (i4_a < (12 : Int))) (chk (decide (0 ≤ i4_a)) (cond ((bAnd .i64 (Int.fdiv set0 (2 ^ min (Int.toNat i4_a) 64)) (1 : Int)) == (1 : Int)) (chk (small (out3_a.length + 1) 8) ((l56a N set0 n (w64 (i4_a + (1 : Int))) (out3_a ++ ([i4_a] : List Int)))))
      ((l56a N set0 n (w64 (i4_a + (1 : Int))) out3_a))))
      (some out3_a)
theorem wl56a (N : Nat) (set0 : Int) (m : Nat) (i4_a : Int) (out3_a : List Int) : R56_0 N (m + 1) (Sl56a set0 i4_a out3_a) = cond (decide (i4_a < (12 : Int))) (chk (decide (0 ≤ i4_a)) (cond ((bAnd .i64 (Int.fdiv set0 (2 ^ min (Int.toNat i4_a) 64)) (1 : Int)) == (1 : Int)) (chk (small (out3_a.length + 1) 8) ((R56_0 N m (Sl56a set0 (w64 (i4_a + (1 : Int))) (out3_a ++ ([i4_a] : List Int))))))
      ((R56_0 N m (Sl56a set0 (w64 (i4_a + (1 : Int))) out3_a)))))
      (some out3_a) := by kernel_rfl
theorem ql56a (N : Nat) (set0 : Int) : ∀ (m : Nat) (i4_a : Int) (out3_a : List Int), R56_0 N m (Sl56a set0 i4_a out3_a) = l56a N set0 m i4_a out3_a
        | 0, _, _ => rfl
        | m + 1, i4_a, out3_a => by rw [wl56a]; simp only [l56a, ql56a N set0 m]
def m56 (N : Nat) (set0 : Int) : Option (List Int) :=
      (l56a N set0 N (0 : Int) ([] : List Int))
theorem wm56 (N : Nat) (set0 : Int) : callF (E56) lv56 N en56 c56 (resOf Try.f56) 18 [.dv (.int .i64) set0] [] dec56 = (R56_0 N N (Sl56a set0 (0 : Int) ([] : List Int))) := by kernel_rfl
theorem k56 (N : Nat) (set0 : Int) : callF (E56) lv56 N en56 c56 (resOf Try.f56) 18 [.dv (.int .i64) set0] [] dec56 = m56 N set0 := by rw [wm56]; simp only [m56, ql56a]
theorem ok56 (a : Int → Option (List Int)) (h : ∀ set0 r, a set0 = some r → (∃ N, m56 N set0 = some r)) : FnOk Try.prog 56 (F56 a) := by
  intro args Of x hx
  simp only [F56] at hx
  split at hx
  · rename_i set0
    obtain ⟨N, hN⟩ := h _ _ hx
    refine lifted (L := []) (rc := nrc) (fz := nfz) (fn := Try.f56) (by kernel_rfl) (by kernel_rfl) (by kernel_rfl) (by kernel_rfl) rfl ?_ ((k56 N _).trans hN) ?_
    · intro p hp; cases hp
    · intro l o hd
      simp only [dec56] at hd
      split at hd
      · obtain rfl := Option.some.inj hd; exact ⟨rfl, rfl⟩
      · cases hd
  · cases hx
def E57 : Env := mkE TI TY [] nrc nfz
noncomputable def c57 : Code := bodyOf Try.f57
def nm57_0 : Norm := ⟨[0, 1, 5], [], [], []⟩
def lv57 : Nat → Option Norm := norms [(2, nm57_0)]
def en57 : End := ⟨[], ⟨[30], [], [], []⟩⟩
def dec57 (l : List TV) (o : List (Nat × TO)) : Option (Bool) := match l, o with | [.dv (.bool) x0], [] => some (x0) | _, _ => none
noncomputable def K57_0 (N : Nat) : Kont (Bool) := kont (E57) lv57 N c57 [1, 0, 1, 0] (fin TI en57 (resOf Try.f57) dec57)
noncomputable def R57_0 (N : Nat) (m : Nat) : TS → Option (Bool) := loopK (den (E57) lv57 N (sub c57 [1, 0, 1, 0, 0])) (TS.norm nm57_0) (K57_0 N) m
def Sl57a (a0 : List Int) (b1 : List Int) (i5_a : Int) : TS := ⟨slots 30 [(0, .dv (.sl (.int .i64)) a0), (1, .dv (.sl (.int .i64)) b1), (5, .dv (.int .i64) i5_a)], []⟩
def l57a (N : Nat) (a0 : List Int) (b1 : List Int) : Nat → Int → Option (Bool)
  | 0, _ => none
  | n + 1, i5_a => cond (decide (i5_a < (a0.length : Int))) (chk (decide (0 ≤ i5_a ∧ i5_a < (a0.length : Int))) (chk (decide (0 ≤ i5_a ∧ i5_a < (b1.length : Int))) (cond ((a0.getD i5_a.toNat (0 : Int)) != (b1.getD i5_a.toNat (0 : Int))) (chk (decide (0 ≤ i5_a ∧ i5_a < (a0.length : Int))) (chk (decide (0 ≤ i5_a ∧ i5_a < (b1.length : Int))) (some (decide ((a0.getD i5_a.toNat (0 : Int)) < (b1.getD i5_a.toNat (0 : Int)))))))
      ((l57a N a0 b1 n (w64 (i5_a + (1 : Int))))))))
      (some false)
theorem wl57a (N : Nat) (a0 : List Int) (b1 : List Int) (m : Nat) (i5_a : Int) : R57_0 N (m + 1) (Sl57a a0 b1 i5_a) = cond (decide (i5_a < (a0.length : Int))) (chk (decide (0 ≤ i5_a ∧ i5_a < (a0.length : Int))) (chk (decide (0 ≤ i5_a ∧ i5_a < (b1.length : Int))) (cond ((a0.getD i5_a.toNat (0 : Int)) != (b1.getD i5_a.toNat (0 : Int))) (chk (decide (0 ≤ i5_a ∧ i5_a < (a0.length : Int))) (chk (decide (0 ≤ i5_a ∧ i5_a < (b1.length : Int))) (some (decide ((a0.getD i5_a.toNat (0 : Int)) < (b1.getD i5_a.toNat (0 : Int)))))))
      ((R57_0 N m (Sl57a a0 b1 (w64 (i5_a + (1 : Int)))))))))
      (some false) := by kernel_rfl
theorem ql57a (N : Nat) (a0 : List Int) (b1 : List Int) : ∀ (m : Nat) (i5_a : Int), R57_0 N m (Sl57a a0 b1 i5_a) = l57a N a0 b1 m i5_a
        | 0, _ => rfl
        | m + 1, i5_a => by rw [wl57a]; simp only [l57a, ql57a N a0 b1 m]
def m57 (N : Nat) (a0 : List Int) (b1 : List Int) : Option (Bool) :=
      (l57a N a0 b1 N (0 : Int))
theorem wm57 (N : Nat) (a0 : List Int) (b1 : List Int) : callF (E57) lv57 N en57 c57 (resOf Try.f57) 28 [.dv (.sl (.int .i64)) a0, .dv (.sl (.int .i64)) b1] [] dec57 = (R57_0 N N (Sl57a a0 b1 (0 : Int))) := by kernel_rfl
theorem k57 (N : Nat) (a0 : List Int) (b1 : List Int) : callF (E57) lv57 N en57 c57 (resOf Try.f57) 28 [.dv (.sl (.int .i64)) a0, .dv (.sl (.int .i64)) b1] [] dec57 = m57 N a0 b1 := by rw [wm57]; simp only [m57, ql57a]
theorem ok57 (a : (List Int) → (List Int) → Option (Bool)) (h : ∀ a0 b1 r, a a0 b1 = some r → (∃ N, m57 N a0 b1 = some r)) : FnOk Try.prog 57 (F57 a) := by
  intro args Of x hx
  simp only [F57] at hx
  split at hx
  · rename_i a0 b1
    obtain ⟨N, hN⟩ := h _ _ _ hx
    refine lifted (L := []) (rc := nrc) (fz := nfz) (fn := Try.f57) (by kernel_rfl) (by kernel_rfl) (by kernel_rfl) (by kernel_rfl) rfl ?_ ((k57 N _ _).trans hN) ?_
    · intro p hp; cases hp
    · intro l o hd
      simp only [dec57] at hd
      split at hd
      · obtain rfl := Option.some.inj hd; exact ⟨rfl, rfl⟩
      · cases hd
  · cases hx
def E21 (a24 : (List (Int × Int × Unit)) → Option (Int)) (a54 : (List (Int × Int × Unit)) → Option (Int × List Int)) (a56 : Int → Option (List Int)) (a57 : (List Int) → (List Int) → Option (Bool)) : Env := mkE TI TY [(24, F24 a24), (54, F54 a54), (56, F56 a56), (57, F57 a57)] nrc nfz
noncomputable def c21 : Code := bodyOf Try.f21
def nm21_0 : Norm := ⟨[6, 7, 8], [], [], [(7, .sl (.int .i64))]⟩
def lv21 : Nat → Option Norm := norms [(7, nm21_0)]
def en21 : End := ⟨[(50, .sl (.int .i64))], ⟨[50, 51], [], [], []⟩⟩
def dec21 (l : List TV) (o : List (Nat × TO)) : Option (List Int × Int) := match l, o with | [.dv (.sl (.int .i64)) x0, .dv (.int .i64) x1], [] => some (x0, x1) | _, _ => none
noncomputable def K21_0 (a24 : (List (Int × Int × Unit)) → Option (Int)) (a54 : (List (Int × Int × Unit)) → Option (Int × List Int)) (a56 : Int → Option (List Int)) (a57 : (List Int) → (List Int) → Option (Bool)) (N : Nat) : Kont (List Int × Int) := kont (E21 a24 a54 a56 a57) lv21 N c21 [1, 1, 1, 1, 1, 0, 1, 0] (fin TI en21 (resOf Try.f21) dec21)
noncomputable def R21_0 (a24 : (List (Int × Int × Unit)) → Option (Int)) (a54 : (List (Int × Int × Unit)) → Option (Int × List Int)) (a56 : Int → Option (List Int)) (a57 : (List Int) → (List Int) → Option (Bool)) (N : Nat) (m : Nat) : TS → Option (List Int × Int) := loopK (den (E21 a24 a54 a56 a57) lv21 N (sub c21 [1, 1, 1, 1, 1, 0, 1, 0, 0])) (TS.norm nm21_0) (K21_0 a24 a54 a56 a57 N) m
def Sl21a (r2 : Int × List Int) (out7_a : List Int) (i8_a : Int) : TS := ⟨slots 50 [(6, .dv (.sl (.int .i64)) r2.2), (7, .dv (.sl (.int .i64)) out7_a), (8, .dv (.int .i64) i8_a)], []⟩
def l21a (a24 : (List (Int × Int × Unit)) → Option (Int)) (a54 : (List (Int × Int × Unit)) → Option (Int × List Int)) (a56 : Int → Option (List Int)) (a57 : (List Int) → (List Int) → Option (Bool)) (N : Nat) (r2 : Int × List Int) : Nat → (List Int) → Int → Option (List Int × Int)
  | 0, _, _ => none
  | n + 1, out7_a, i8_a => cond (decide (i8_a < (r2.2.length : Int))) (chk (decide (0 ≤ i8_a ∧ i8_a < (r2.2.length : Int))) ((a56 (r2.2.getD i8_a.toNat (0 : Int))).bind fun r3 =>
      cond (decide ((r3.length : Int) > (out7_a.length : Int))) ((l21a a24 a54 a56 a57 N r2 n r3 (w64 (i8_a + (1 : Int)))))
      (cond ((r3.length : Int) == (out7_a.length : Int)) ((a57 r3 out7_a).bind fun r4 =>
      cond (r4) ((l21a a24 a54 a56 a57 N r2 n r3 (w64 (i8_a + (1 : Int)))))
      ((l21a a24 a54 a56 a57 N r2 n out7_a (w64 (i8_a + (1 : Int))))))
      ((l21a a24 a54 a56 a57 N r2 n out7_a (w64 (i8_a + (1 : Int))))))))
      (some (out7_a, (0 : Int)))
theorem wl21a (a24 : (List (Int × Int × Unit)) → Option (Int)) (a54 : (List (Int × Int × Unit)) → Option (Int × List Int)) (a56 : Int → Option (List Int)) (a57 : (List Int) → (List Int) → Option (Bool)) (N : Nat) (r2 : Int × List Int) (m : Nat) (out7_a : List Int) (i8_a : Int) : R21_0 a24 a54 a56 a57 N (m + 1) (Sl21a r2 out7_a i8_a) = cond (decide (i8_a < (r2.2.length : Int))) (chk (decide (0 ≤ i8_a ∧ i8_a < (r2.2.length : Int))) ((a56 (r2.2.getD i8_a.toNat (0 : Int))).bind fun r3 =>
      cond (decide ((r3.length : Int) > (out7_a.length : Int))) ((R21_0 a24 a54 a56 a57 N m (Sl21a r2 r3 (w64 (i8_a + (1 : Int))))))
      (cond ((r3.length : Int) == (out7_a.length : Int)) ((a57 r3 out7_a).bind fun r4 =>
      cond (r4) ((R21_0 a24 a54 a56 a57 N m (Sl21a r2 r3 (w64 (i8_a + (1 : Int))))))
      ((R21_0 a24 a54 a56 a57 N m (Sl21a r2 out7_a (w64 (i8_a + (1 : Int)))))))
      ((R21_0 a24 a54 a56 a57 N m (Sl21a r2 out7_a (w64 (i8_a + (1 : Int)))))))))
      (some (out7_a, (0 : Int))) := by kernel_rfl
theorem ql21a (a24 : (List (Int × Int × Unit)) → Option (Int)) (a54 : (List (Int × Int × Unit)) → Option (Int × List Int)) (a56 : Int → Option (List Int)) (a57 : (List Int) → (List Int) → Option (Bool)) (N : Nat) (r2 : Int × List Int) : ∀ (m : Nat) (out7_a : List Int) (i8_a : Int), R21_0 a24 a54 a56 a57 N m (Sl21a r2 out7_a i8_a) = l21a a24 a54 a56 a57 N r2 m out7_a i8_a
        | 0, _, _ => rfl
        | m + 1, out7_a, i8_a => by rw [wl21a]; simp only [l21a, ql21a a24 a54 a56 a57 N r2 m]
def m21 (a24 : (List (Int × Int × Unit)) → Option (Int)) (a54 : (List (Int × Int × Unit)) → Option (Int × List Int)) (a56 : Int → Option (List Int)) (a57 : (List Int) → (List Int) → Option (Bool)) (N : Nat) (l0 : List (Int × Int × Unit)) : Option (List Int × Int) :=
      (a24 l0).bind fun r1 =>
      cond (r1 != (0 : Int)) (some (([] : List Int), r1))
      ((a54 l0).bind fun r2 =>
      (l21a a24 a54 a56 a57 N r2 N ([] : List Int) (0 : Int)))
theorem wm21 (a24 : (List (Int × Int × Unit)) → Option (Int)) (a54 : (List (Int × Int × Unit)) → Option (Int × List Int)) (a56 : Int → Option (List Int)) (a57 : (List Int) → (List Int) → Option (Bool)) (N : Nat) (l0 : List (Int × Int × Unit)) : callF (E21 a24 a54 a56 a57) lv21 N en21 c21 (resOf Try.f21) 49 [.dv (.sl (.pair (.int .i64) (.pair (.int .i64) (.unit)))) l0] [] dec21 = (a24 l0).bind fun r1 =>
      cond (r1 != (0 : Int)) (some (([] : List Int), r1))
      ((a54 l0).bind fun r2 =>
      (R21_0 a24 a54 a56 a57 N N (Sl21a r2 ([] : List Int) (0 : Int)))) := by kernel_rfl
theorem k21 (a24 : (List (Int × Int × Unit)) → Option (Int)) (a54 : (List (Int × Int × Unit)) → Option (Int × List Int)) (a56 : Int → Option (List Int)) (a57 : (List Int) → (List Int) → Option (Bool)) (N : Nat) (l0 : List (Int × Int × Unit)) : callF (E21 a24 a54 a56 a57) lv21 N en21 c21 (resOf Try.f21) 49 [.dv (.sl (.pair (.int .i64) (.pair (.int .i64) (.unit)))) l0] [] dec21 = m21 a24 a54 a56 a57 N l0 := by rw [wm21]; simp only [m21, ql21a]
theorem ok21 (a24 : (List (Int × Int × Unit)) → Option (Int)) (a54 : (List (Int × Int × Unit)) → Option (Int × List Int)) (a56 : Int → Option (List Int)) (a57 : (List Int) → (List Int) → Option (Bool)) (h24 : FnOk Try.prog 24 (F24 a24)) (h54 : FnOk Try.prog 54 (F54 a54)) (h56 : FnOk Try.prog 56 (F56 a56)) (h57 : FnOk Try.prog 57 (F57 a57)) (a : (List (Int × Int × Unit)) → Option (List Int × Int)) (h : ∀ l0 r, a l0 = some r → (∃ N, m21 a24 a54 a56 a57 N l0 = some r)) : FnOk Try.prog 21 (F21 a) := by
  intro args Of x hx
  simp only [F21] at hx
  split at hx
  · rename_i l0
    obtain ⟨N, hN⟩ := h _ _ hx
    refine lifted (L := [(24, F24 a24), (54, F54 a54), (56, F56 a56), (57, F57 a57)]) (rc := nrc) (fz := nfz) (fn := Try.f21) (by kernel_rfl) (by kernel_rfl) (by kernel_rfl) (by kernel_rfl) rfl ?_ ((k21 a24 a54 a56 a57 N _).trans hN) ?_
    · intro p hp; simp only [List.mem_cons, List.not_mem_nil, or_false] at hp; rcases hp with rfl | rfl | rfl | rfl
      · exact h24
      · exact h54
      · exact h56
      · exact h57
    · intro l o hd
      simp only [dec21] at hd
      split at hd
      · obtain rfl := Option.some.inj hd; exact ⟨rfl, rfl⟩
      · cases hd
  · cases hx
def E27 (a24 : (List (Int × Int × Unit)) → Option (Int)) (a51 : Int → Int → Int → Option (Bool)) : Env := mkE TI TY [(24, F24 a24), (51, F51 a51)] nrc nfz
noncomputable def c27 : Code := bodyOf Try.f27
def nm27_0 : Norm := ⟨[0, 1, 7, 8], [], [], []⟩
def nm27_1 : Norm := ⟨[0, 1, 7, 8, 9], [], [], []⟩
def lv27 : Nat → Option Norm := norms [(8, nm27_0), (13, nm27_1)]
def en27 : End := ⟨[], ⟨[68, 69], [], [], []⟩⟩
def dec27 (l : List TV) (o : List (Nat × TO)) : Option (Int × Int) := match l, o with | [.dv (.int .i64) x0, .dv (.int .i64) x1], [] => some (x0, x1) | _, _ => none
noncomputable def K27_0 (a24 : (List (Int × Int × Unit)) → Option (Int)) (a51 : Int → Int → Int → Option (Bool)) (N : Nat) : Kont (Int × Int) := kont (E27 a24 a51) lv27 N c27 [1, 1, 1, 1, 1, 0, 1, 0] (fin TI en27 (resOf Try.f27) dec27)
noncomputable def R27_0 (a24 : (List (Int × Int × Unit)) → Option (Int)) (a51 : Int → Int → Int → Option (Bool)) (N : Nat) (m : Nat) : TS → Option (Int × Int) := loopK (den (E27 a24 a51) lv27 N (sub c27 [1, 1, 1, 1, 1, 0, 1, 0, 0])) (TS.norm nm27_0) (K27_0 a24 a51 N) m
noncomputable def K27_1 (a24 : (List (Int × Int × Unit)) → Option (Int)) (a51 : Int → Int → Int → Option (Bool)) (N : Nat) (T27_0 : TS → Option (Int × Int)) : Kont (Int × Int) := kont (E27 a24 a51) lv27 N (sub c27 [1, 1, 1, 1, 1, 0, 1, 0, 0]) [1, 0, 0, 1, 0, 1, 0] (kloop (TS.norm nm27_0) (K27_0 a24 a51 N) T27_0)
noncomputable def R27_1 (a24 : (List (Int × Int × Unit)) → Option (Int)) (a51 : Int → Int → Int → Option (Bool)) (N : Nat) (T27_0 : TS → Option (Int × Int)) (m : Nat) : TS → Option (Int × Int) := loopK (den (E27 a24 a51) lv27 N (sub c27 [1, 1, 1, 1, 1, 0, 1, 0, 0, 1, 0, 0, 1, 0, 1, 0, 0])) (TS.norm nm27_1) (K27_1 a24 a51 N T27_0) m
def Sl27b (l0 : List (Int × Int × Unit)) (plan1 : List Int) (n7_a : Int) (i8_a : Int) (k9_b : Int) : TS := ⟨slots 68 [(0, .dv (.sl (.pair (.int .i64) (.pair (.int .i64) (.unit)))) l0), (1, .dv (.sl (.int .i64)) plan1), (7, .dv (.int .i64) n7_a), (8, .dv (.int .i64) i8_a), (9, .dv (.int .i64) k9_b)], []⟩
def Sl27a (l0 : List (Int × Int × Unit)) (plan1 : List Int) (n7_a : Int) (i8_a : Int) : TS := ⟨slots 68 [(0, .dv (.sl (.pair (.int .i64) (.pair (.int .i64) (.unit)))) l0), (1, .dv (.sl (.int .i64)) plan1), (7, .dv (.int .i64) n7_a), (8, .dv (.int .i64) i8_a)], []⟩
def l27b (a24 : (List (Int × Int × Unit)) → Option (Int)) (a51 : Int → Int → Int → Option (Bool)) (N : Nat) (l0 : List (Int × Int × Unit)) (plan1 : List Int) (n7_a : Int) (i8_a : Int) (rec_l27a : Int → Int → Option (Int × Int)) : Nat → Int → Option (Int × Int)
  | 0, _ => none
  | n + 1, k9_b => cond (decide (k9_b < i8_a)) (chk (decide (0 ≤ k9_b ∧ k9_b < (plan1.length : Int))) (chk (decide (0 ≤ i8_a ∧ i8_a < (plan1.length : Int))) (cond ((plan1.getD k9_b.toNat (0 : Int)) == (plan1.getD i8_a.toNat (0 : Int))) (some ((0 : Int), (6 : Int)))
      ((l27b a24 a51 N l0 plan1 n7_a i8_a rec_l27a n (w64 (k9_b + (1 : Int))))))))
      (chk (decide (0 ≤ i8_a ∧ i8_a < (plan1.length : Int))) (chk (decide (0 ≤ i8_a ∧ i8_a < (l0.length : Int))) (cond (decide ((plan1.getD i8_a.toNat (0 : Int)) > ((l0.getD i8_a.toNat ((0 : Int), ((0 : Int), ()))).1))) (chk (decide (0 ≤ i8_a ∧ i8_a < (l0.length : Int))) ((rec_l27a (w64 (n7_a + (((l0.getD i8_a.toNat ((0 : Int), ((0 : Int), ()))).2).1))) (w64 (i8_a + (1 : Int))))))
      ((rec_l27a n7_a (w64 (i8_a + (1 : Int))))))))
theorem wl27b (a24 : (List (Int × Int × Unit)) → Option (Int)) (a51 : Int → Int → Int → Option (Bool)) (N : Nat) (l0 : List (Int × Int × Unit)) (plan1 : List Int) (n7_a : Int) (i8_a : Int) (T27_0 : TS → Option (Int × Int)) (m : Nat) (k9_b : Int) : R27_1 a24 a51 N T27_0 (m + 1) (Sl27b l0 plan1 n7_a i8_a k9_b) = cond (decide (k9_b < i8_a)) (chk (decide (0 ≤ k9_b ∧ k9_b < (plan1.length : Int))) (chk (decide (0 ≤ i8_a ∧ i8_a < (plan1.length : Int))) (cond ((plan1.getD k9_b.toNat (0 : Int)) == (plan1.getD i8_a.toNat (0 : Int))) (some ((0 : Int), (6 : Int)))
      ((R27_1 a24 a51 N T27_0 m (Sl27b l0 plan1 n7_a i8_a (w64 (k9_b + (1 : Int)))))))))
      (chk (decide (0 ≤ i8_a ∧ i8_a < (plan1.length : Int))) (chk (decide (0 ≤ i8_a ∧ i8_a < (l0.length : Int))) (cond (decide ((plan1.getD i8_a.toNat (0 : Int)) > ((l0.getD i8_a.toNat ((0 : Int), ((0 : Int), ()))).1))) (chk (decide (0 ≤ i8_a ∧ i8_a < (l0.length : Int))) ((T27_0 (Sl27a l0 plan1 (w64 (n7_a + (((l0.getD i8_a.toNat ((0 : Int), ((0 : Int), ()))).2).1))) (w64 (i8_a + (1 : Int)))))))
      ((T27_0 (Sl27a l0 plan1 n7_a (w64 (i8_a + (1 : Int))))))))) := by kernel_rfl
theorem ql27b (a24 : (List (Int × Int × Unit)) → Option (Int)) (a51 : Int → Int → Int → Option (Bool)) (N : Nat) (l0 : List (Int × Int × Unit)) (plan1 : List Int) (n7_a : Int) (i8_a : Int) (T27_0 : TS → Option (Int × Int)) : ∀ (m : Nat) (k9_b : Int), R27_1 a24 a51 N T27_0 m (Sl27b l0 plan1 n7_a i8_a k9_b) = l27b a24 a51 N l0 plan1 n7_a i8_a (fun y0 y1 => T27_0 (Sl27a l0 plan1 y0 y1)) m k9_b
        | 0, _ => rfl
        | m + 1, k9_b => by rw [wl27b]; simp only [l27b, ql27b a24 a51 N l0 plan1 n7_a i8_a T27_0 m]
def l27a (a24 : (List (Int × Int × Unit)) → Option (Int)) (a51 : Int → Int → Int → Option (Bool)) (N : Nat) (l0 : List (Int × Int × Unit)) (plan1 : List Int) : Nat → Int → Int → Option (Int × Int)
  | 0, _, _ => none
  | n + 1, n7_a, i8_a => cond (decide (i8_a < (plan1.length : Int))) (chk (decide (0 ≤ i8_a ∧ i8_a < (plan1.length : Int))) ((a51 (plan1.getD i8_a.toNat (0 : Int)) (1 : Int) (42 : Int)).bind fun r2 =>
      cond (!r2) (some ((0 : Int), (4 : Int)))
      ((l27b a24 a51 N l0 plan1 n7_a i8_a (fun y0 y1 => (l27a a24 a51 N l0 plan1 n y0 y1)) N (0 : Int)))))
      (some (n7_a, (0 : Int)))
theorem wl27a (a24 : (List (Int × Int × Unit)) → Option (Int)) (a51 : Int → Int → Int → Option (Bool)) (N : Nat) (l0 : List (Int × Int × Unit)) (plan1 : List Int) (m : Nat) (n7_a : Int) (i8_a : Int) : R27_0 a24 a51 N (m + 1) (Sl27a l0 plan1 n7_a i8_a) = cond (decide (i8_a < (plan1.length : Int))) (chk (decide (0 ≤ i8_a ∧ i8_a < (plan1.length : Int))) ((a51 (plan1.getD i8_a.toNat (0 : Int)) (1 : Int) (42 : Int)).bind fun r2 =>
      cond (!r2) (some ((0 : Int), (4 : Int)))
      ((R27_1 a24 a51 N (R27_0 a24 a51 N m) N (Sl27b l0 plan1 n7_a i8_a (0 : Int))))))
      (some (n7_a, (0 : Int))) := by kernel_rfl
theorem ql27a (a24 : (List (Int × Int × Unit)) → Option (Int)) (a51 : Int → Int → Int → Option (Bool)) (N : Nat) (l0 : List (Int × Int × Unit)) (plan1 : List Int) : ∀ (m : Nat) (n7_a : Int) (i8_a : Int), R27_0 a24 a51 N m (Sl27a l0 plan1 n7_a i8_a) = l27a a24 a51 N l0 plan1 m n7_a i8_a
        | 0, _, _ => rfl
        | m + 1, n7_a, i8_a => by rw [wl27a]; simp only [l27a, ql27b, ql27a a24 a51 N l0 plan1 m]
def m27 (a24 : (List (Int × Int × Unit)) → Option (Int)) (a51 : Int → Int → Int → Option (Bool)) (N : Nat) (l0 : List (Int × Int × Unit)) (plan1 : List Int) : Option (Int × Int) :=
      (a24 l0).bind fun r1 =>
      cond (r1 == (0 : Int)) (cond ((plan1.length : Int) != (l0.length : Int)) (some ((0 : Int), (3 : Int)))
      (cond (r1 != (0 : Int)) (some ((0 : Int), r1))
      ((l27a a24 a51 N l0 plan1 N (0 : Int) (0 : Int)))))
      (cond (r1 != (0 : Int)) (some ((0 : Int), r1))
      ((l27a a24 a51 N l0 plan1 N (0 : Int) (0 : Int))))
theorem wm27 (a24 : (List (Int × Int × Unit)) → Option (Int)) (a51 : Int → Int → Int → Option (Bool)) (N : Nat) (l0 : List (Int × Int × Unit)) (plan1 : List Int) : callF (E27 a24 a51) lv27 N en27 c27 (resOf Try.f27) 66 [.dv (.sl (.pair (.int .i64) (.pair (.int .i64) (.unit)))) l0, .dv (.sl (.int .i64)) plan1] [] dec27 = (a24 l0).bind fun r1 =>
      cond (r1 == (0 : Int)) (cond ((plan1.length : Int) != (l0.length : Int)) (some ((0 : Int), (3 : Int)))
      (cond (r1 != (0 : Int)) (some ((0 : Int), r1))
      ((R27_0 a24 a51 N N (Sl27a l0 plan1 (0 : Int) (0 : Int))))))
      (cond (r1 != (0 : Int)) (some ((0 : Int), r1))
      ((R27_0 a24 a51 N N (Sl27a l0 plan1 (0 : Int) (0 : Int))))) := by kernel_rfl
theorem k27 (a24 : (List (Int × Int × Unit)) → Option (Int)) (a51 : Int → Int → Int → Option (Bool)) (N : Nat) (l0 : List (Int × Int × Unit)) (plan1 : List Int) : callF (E27 a24 a51) lv27 N en27 c27 (resOf Try.f27) 66 [.dv (.sl (.pair (.int .i64) (.pair (.int .i64) (.unit)))) l0, .dv (.sl (.int .i64)) plan1] [] dec27 = m27 a24 a51 N l0 plan1 := by rw [wm27]; simp only [m27, ql27a]
theorem ok27 (a24 : (List (Int × Int × Unit)) → Option (Int)) (a51 : Int → Int → Int → Option (Bool)) (h24 : FnOk Try.prog 24 (F24 a24)) (h51 : FnOk Try.prog 51 (F51 a51)) (a : (List (Int × Int × Unit)) → (List Int) → Option (Int × Int)) (h : ∀ l0 plan1 r, a l0 plan1 = some r → (∃ N, m27 a24 a51 N l0 plan1 = some r)) : FnOk Try.prog 27 (F27 a) := by
  intro args Of x hx
  simp only [F27] at hx
  split at hx
  · rename_i l0 plan1
    obtain ⟨N, hN⟩ := h _ _ _ hx
    refine lifted (L := [(24, F24 a24), (51, F51 a51)]) (rc := nrc) (fz := nfz) (fn := Try.f27) (by kernel_rfl) (by kernel_rfl) (by kernel_rfl) (by kernel_rfl) rfl ?_ ((k27 a24 a51 N _ _).trans hN) ?_
    · intro p hp; simp only [List.mem_cons, List.not_mem_nil, or_false] at hp; rcases hp with rfl | rfl
      · exact h24
      · exact h51
    · intro l o hd
      simp only [dec27] at hd
      split at hd
      · obtain rfl := Option.some.inj hd; exact ⟨rfl, rfl⟩
      · cases hd
  · cases hx
def E29 (a27 : (List (Int × Int × Unit)) → (List Int) → Option (Int × Int)) (a54 : (List (Int × Int × Unit)) → Option (Int × List Int)) : Env := mkE TI TY [(27, F27 a27), (54, F54 a54)] nrc nfz
noncomputable def c29 : Code := bodyOf Try.f29
def lv29 : Nat → Option Norm := norms []
def en29 : End := ⟨[], ⟨[26], [], [], []⟩⟩
def dec29 (l : List TV) (o : List (Nat × TO)) : Option (Int) := match l, o with | [.dv (.int .i64) x0], [] => some (x0) | _, _ => none
def m29 (a27 : (List (Int × Int × Unit)) → (List Int) → Option (Int × Int)) (a54 : (List (Int × Int × Unit)) → Option (Int × List Int)) (N : Nat) (l0 : List (Int × Int × Unit)) (plan1 : List Int) : Option (Int) :=
      (a27 l0 plan1).bind fun r1 =>
      cond (r1.2 != (0 : Int)) (some r1.2)
      ((a54 l0).bind fun r2 =>
      cond (decide (r1.1 > r2.1)) (some (14 : Int))
      (some (0 : Int)))
theorem k29 (a27 : (List (Int × Int × Unit)) → (List Int) → Option (Int × Int)) (a54 : (List (Int × Int × Unit)) → Option (Int × List Int)) (N : Nat) (l0 : List (Int × Int × Unit)) (plan1 : List Int) : callF (E29 a27 a54) lv29 N en29 c29 (resOf Try.f29) 24 [.dv (.sl (.pair (.int .i64) (.pair (.int .i64) (.unit)))) l0, .dv (.sl (.int .i64)) plan1] [] dec29 = m29 a27 a54 N l0 plan1 := by kernel_rfl
theorem ok29 (a27 : (List (Int × Int × Unit)) → (List Int) → Option (Int × Int)) (a54 : (List (Int × Int × Unit)) → Option (Int × List Int)) (h27 : FnOk Try.prog 27 (F27 a27)) (h54 : FnOk Try.prog 54 (F54 a54)) (a : (List (Int × Int × Unit)) → (List Int) → Option (Int)) (h : ∀ l0 plan1 r, a l0 plan1 = some r → (∃ N, m29 a27 a54 N l0 plan1 = some r)) : FnOk Try.prog 29 (F29 a) := by
  intro args Of x hx
  simp only [F29] at hx
  split at hx
  · rename_i l0 plan1
    obtain ⟨N, hN⟩ := h _ _ _ hx
    refine lifted (L := [(27, F27 a27), (54, F54 a54)]) (rc := nrc) (fz := nfz) (fn := Try.f29) (by kernel_rfl) (by kernel_rfl) (by kernel_rfl) (by kernel_rfl) rfl ?_ ((k29 a27 a54 N _ _).trans hN) ?_
    · intro p hp; simp only [List.mem_cons, List.not_mem_nil, or_false] at hp; rcases hp with rfl | rfl
      · exact h27
      · exact h54
    · intro l o hd
      simp only [dec29] at hd
      split at hd
      · obtain rfl := Option.some.inj hd; exact ⟨rfl, rfl⟩
      · cases hd
  · cases hx
def E31 (a24 : (List (Int × Int × Unit)) → Option (Int)) (a54 : (List (Int × Int × Unit)) → Option (Int × List Int)) (a56 : Int → Option (List Int)) : Env := mkE TI TY [(24, F24 a24), (54, F54 a54), (56, F56 a56)] nrc nfz
noncomputable def c31 : Code := bodyOf Try.f31
def nm31_0 : Norm := ⟨[6, 7, 8], [], [], []⟩
def lv31 : Nat → Option Norm := norms [(7, nm31_0)]
def en31 : End := ⟨[(36, .sl (.int .i64))], ⟨[36, 37], [], [], []⟩⟩
def dec31 (l : List TV) (o : List (Nat × TO)) : Option (List Int × Int) := match l, o with | [.dv (.sl (.int .i64)) x0, .dv (.int .i64) x1], [] => some (x0, x1) | _, _ => none
noncomputable def K31_0 (a24 : (List (Int × Int × Unit)) → Option (Int)) (a54 : (List (Int × Int × Unit)) → Option (Int × List Int)) (a56 : Int → Option (List Int)) (N : Nat) : Kont (List Int × Int) := kont (E31 a24 a54 a56) lv31 N c31 [1, 1, 1, 1, 1, 0, 1, 0] (fin TI en31 (resOf Try.f31) dec31)
noncomputable def R31_0 (a24 : (List (Int × Int × Unit)) → Option (Int)) (a54 : (List (Int × Int × Unit)) → Option (Int × List Int)) (a56 : Int → Option (List Int)) (N : Nat) (m : Nat) : TS → Option (List Int × Int) := loopK (den (E31 a24 a54 a56) lv31 N (sub c31 [1, 1, 1, 1, 1, 0, 1, 0, 0])) (TS.norm nm31_0) (K31_0 a24 a54 a56 N) m
def Sl31a (r2 : Int × List Int) (all7_a : Int) (i8_a : Int) : TS := ⟨slots 36 [(6, .dv (.sl (.int .i64)) r2.2), (7, .dv (.int .i64) all7_a), (8, .dv (.int .i64) i8_a)], []⟩
def l31a (a24 : (List (Int × Int × Unit)) → Option (Int)) (a54 : (List (Int × Int × Unit)) → Option (Int × List Int)) (a56 : Int → Option (List Int)) (N : Nat) (r2 : Int × List Int) : Nat → Int → Int → Option (List Int × Int)
  | 0, _, _ => none
  | n + 1, all7_a, i8_a => cond (decide (i8_a < (r2.2.length : Int))) (chk (decide (0 ≤ i8_a ∧ i8_a < (r2.2.length : Int))) ((l31a a24 a54 a56 N r2 n (bAnd .i64 all7_a (r2.2.getD i8_a.toNat (0 : Int))) (w64 (i8_a + (1 : Int))))))
      ((a56 all7_a).bind fun r3 =>
      some (r3, (0 : Int)))
theorem wl31a (a24 : (List (Int × Int × Unit)) → Option (Int)) (a54 : (List (Int × Int × Unit)) → Option (Int × List Int)) (a56 : Int → Option (List Int)) (N : Nat) (r2 : Int × List Int) (m : Nat) (all7_a : Int) (i8_a : Int) : R31_0 a24 a54 a56 N (m + 1) (Sl31a r2 all7_a i8_a) = cond (decide (i8_a < (r2.2.length : Int))) (chk (decide (0 ≤ i8_a ∧ i8_a < (r2.2.length : Int))) ((R31_0 a24 a54 a56 N m (Sl31a r2 (bAnd .i64 all7_a (r2.2.getD i8_a.toNat (0 : Int))) (w64 (i8_a + (1 : Int)))))))
      ((a56 all7_a).bind fun r3 =>
      some (r3, (0 : Int))) := by kernel_rfl
theorem ql31a (a24 : (List (Int × Int × Unit)) → Option (Int)) (a54 : (List (Int × Int × Unit)) → Option (Int × List Int)) (a56 : Int → Option (List Int)) (N : Nat) (r2 : Int × List Int) : ∀ (m : Nat) (all7_a : Int) (i8_a : Int), R31_0 a24 a54 a56 N m (Sl31a r2 all7_a i8_a) = l31a a24 a54 a56 N r2 m all7_a i8_a
        | 0, _, _ => rfl
        | m + 1, all7_a, i8_a => by rw [wl31a]; simp only [l31a, ql31a a24 a54 a56 N r2 m]
def m31 (a24 : (List (Int × Int × Unit)) → Option (Int)) (a54 : (List (Int × Int × Unit)) → Option (Int × List Int)) (a56 : Int → Option (List Int)) (N : Nat) (l0 : List (Int × Int × Unit)) : Option (List Int × Int) :=
      (a24 l0).bind fun r1 =>
      cond (r1 != (0 : Int)) (some (([] : List Int), r1))
      ((a54 l0).bind fun r2 =>
      chk (decide (0 ≤ (0 : Int) ∧ (0 : Int) < (r2.2.length : Int))) ((l31a a24 a54 a56 N r2 N (r2.2.getD 0 (0 : Int)) (0 : Int))))
theorem wm31 (a24 : (List (Int × Int × Unit)) → Option (Int)) (a54 : (List (Int × Int × Unit)) → Option (Int × List Int)) (a56 : Int → Option (List Int)) (N : Nat) (l0 : List (Int × Int × Unit)) : callF (E31 a24 a54 a56) lv31 N en31 c31 (resOf Try.f31) 35 [.dv (.sl (.pair (.int .i64) (.pair (.int .i64) (.unit)))) l0] [] dec31 = (a24 l0).bind fun r1 =>
      cond (r1 != (0 : Int)) (some (([] : List Int), r1))
      ((a54 l0).bind fun r2 =>
      chk (decide (0 ≤ (0 : Int) ∧ (0 : Int) < (r2.2.length : Int))) ((R31_0 a24 a54 a56 N N (Sl31a r2 (r2.2.getD 0 (0 : Int)) (0 : Int))))) := by kernel_rfl
theorem k31 (a24 : (List (Int × Int × Unit)) → Option (Int)) (a54 : (List (Int × Int × Unit)) → Option (Int × List Int)) (a56 : Int → Option (List Int)) (N : Nat) (l0 : List (Int × Int × Unit)) : callF (E31 a24 a54 a56) lv31 N en31 c31 (resOf Try.f31) 35 [.dv (.sl (.pair (.int .i64) (.pair (.int .i64) (.unit)))) l0] [] dec31 = m31 a24 a54 a56 N l0 := by rw [wm31]; simp only [m31, ql31a]
theorem ok31 (a24 : (List (Int × Int × Unit)) → Option (Int)) (a54 : (List (Int × Int × Unit)) → Option (Int × List Int)) (a56 : Int → Option (List Int)) (h24 : FnOk Try.prog 24 (F24 a24)) (h54 : FnOk Try.prog 54 (F54 a54)) (h56 : FnOk Try.prog 56 (F56 a56)) (a : (List (Int × Int × Unit)) → Option (List Int × Int)) (h : ∀ l0 r, a l0 = some r → (∃ N, m31 a24 a54 a56 N l0 = some r)) : FnOk Try.prog 31 (F31 a) := by
  intro args Of x hx
  simp only [F31] at hx
  split at hx
  · rename_i l0
    obtain ⟨N, hN⟩ := h _ _ hx
    refine lifted (L := [(24, F24 a24), (54, F54 a54), (56, F56 a56)]) (rc := nrc) (fz := nfz) (fn := Try.f31) (by kernel_rfl) (by kernel_rfl) (by kernel_rfl) (by kernel_rfl) rfl ?_ ((k31 a24 a54 a56 N _).trans hN) ?_
    · intro p hp; simp only [List.mem_cons, List.not_mem_nil, or_false] at hp; rcases hp with rfl | rfl | rfl
      · exact h24
      · exact h54
      · exact h56
    · intro l o hd
      simp only [dec31] at hd
      split at hd
      · obtain rfl := Option.some.inj hd; exact ⟨rfl, rfl⟩
      · cases hd
  · cases hx
def E33 (a24 : (List (Int × Int × Unit)) → Option (Int)) (a54 : (List (Int × Int × Unit)) → Option (Int × List Int)) (a56 : Int → Option (List Int)) : Env := mkE TI TY [(24, F24 a24), (54, F54 a54), (56, F56 a56)] nrc nfz
noncomputable def c33 : Code := bodyOf Try.f33
def nm33_0 : Norm := ⟨[0, 6, 7, 8], [], [], []⟩
def lv33 : Nat → Option Norm := norms [(7, nm33_0)]
def en33 : End := ⟨[(38, .sl (.int .i64))], ⟨[38, 39], [], [], []⟩⟩
def dec33 (l : List TV) (o : List (Nat × TO)) : Option (List Int × Int) := match l, o with | [.dv (.sl (.int .i64)) x0, .dv (.int .i64) x1], [] => some (x0, x1) | _, _ => none
noncomputable def K33_0 (a24 : (List (Int × Int × Unit)) → Option (Int)) (a54 : (List (Int × Int × Unit)) → Option (Int × List Int)) (a56 : Int → Option (List Int)) (N : Nat) : Kont (List Int × Int) := kont (E33 a24 a54 a56) lv33 N c33 [1, 1, 1, 1, 1, 0, 1, 0] (fin TI en33 (resOf Try.f33) dec33)
noncomputable def R33_0 (a24 : (List (Int × Int × Unit)) → Option (Int)) (a54 : (List (Int × Int × Unit)) → Option (Int × List Int)) (a56 : Int → Option (List Int)) (N : Nat) (m : Nat) : TS → Option (List Int × Int) := loopK (den (E33 a24 a54 a56) lv33 N (sub c33 [1, 1, 1, 1, 1, 0, 1, 0, 0])) (TS.norm nm33_0) (K33_0 a24 a54 a56 N) m
def Sl33a (l0 : List (Int × Int × Unit)) (r2 : Int × List Int) (some7_a : Int) (i8_a : Int) : TS := ⟨slots 38 [(0, .dv (.sl (.pair (.int .i64) (.pair (.int .i64) (.unit)))) l0), (6, .dv (.sl (.int .i64)) r2.2), (7, .dv (.int .i64) some7_a), (8, .dv (.int .i64) i8_a)], []⟩
def l33a (a24 : (List (Int × Int × Unit)) → Option (Int)) (a54 : (List (Int × Int × Unit)) → Option (Int × List Int)) (a56 : Int → Option (List Int)) (N : Nat) (l0 : List (Int × Int × Unit)) (r2 : Int × List Int) : Nat → Int → Int → Option (List Int × Int)
  | 0, _, _ => none
  | n + 1, some7_a, i8_a => cond (decide (i8_a < (r2.2.length : Int))) (chk (decide (0 ≤ i8_a ∧ i8_a < (r2.2.length : Int))) ((l33a a24 a54 a56 N l0 r2 n (bOr .i64 some7_a (r2.2.getD i8_a.toNat (0 : Int))) (w64 (i8_a + (1 : Int))))))
      (chk (decide (0 ≤ (l0.length : Int))) ((a56 (w64 ((w64 ((IntKind.wrap .i64 ((1 : Int) * 2 ^ min (Int.toNat (l0.length : Int)) 64)) - (1 : Int))) - some7_a))).bind fun r3 =>
      some (r3, (0 : Int))))
theorem wl33a (a24 : (List (Int × Int × Unit)) → Option (Int)) (a54 : (List (Int × Int × Unit)) → Option (Int × List Int)) (a56 : Int → Option (List Int)) (N : Nat) (l0 : List (Int × Int × Unit)) (r2 : Int × List Int) (m : Nat) (some7_a : Int) (i8_a : Int) : R33_0 a24 a54 a56 N (m + 1) (Sl33a l0 r2 some7_a i8_a) = cond (decide (i8_a < (r2.2.length : Int))) (chk (decide (0 ≤ i8_a ∧ i8_a < (r2.2.length : Int))) ((R33_0 a24 a54 a56 N m (Sl33a l0 r2 (bOr .i64 some7_a (r2.2.getD i8_a.toNat (0 : Int))) (w64 (i8_a + (1 : Int)))))))
      (chk (decide (0 ≤ (l0.length : Int))) ((a56 (w64 ((w64 ((IntKind.wrap .i64 ((1 : Int) * 2 ^ min (Int.toNat (l0.length : Int)) 64)) - (1 : Int))) - some7_a))).bind fun r3 =>
      some (r3, (0 : Int)))) := by kernel_rfl
theorem ql33a (a24 : (List (Int × Int × Unit)) → Option (Int)) (a54 : (List (Int × Int × Unit)) → Option (Int × List Int)) (a56 : Int → Option (List Int)) (N : Nat) (l0 : List (Int × Int × Unit)) (r2 : Int × List Int) : ∀ (m : Nat) (some7_a : Int) (i8_a : Int), R33_0 a24 a54 a56 N m (Sl33a l0 r2 some7_a i8_a) = l33a a24 a54 a56 N l0 r2 m some7_a i8_a
        | 0, _, _ => rfl
        | m + 1, some7_a, i8_a => by rw [wl33a]; simp only [l33a, ql33a a24 a54 a56 N l0 r2 m]
def m33 (a24 : (List (Int × Int × Unit)) → Option (Int)) (a54 : (List (Int × Int × Unit)) → Option (Int × List Int)) (a56 : Int → Option (List Int)) (N : Nat) (l0 : List (Int × Int × Unit)) : Option (List Int × Int) :=
      (a24 l0).bind fun r1 =>
      cond (r1 != (0 : Int)) (some (([] : List Int), r1))
      ((a54 l0).bind fun r2 =>
      (l33a a24 a54 a56 N l0 r2 N (0 : Int) (0 : Int)))
theorem wm33 (a24 : (List (Int × Int × Unit)) → Option (Int)) (a54 : (List (Int × Int × Unit)) → Option (Int × List Int)) (a56 : Int → Option (List Int)) (N : Nat) (l0 : List (Int × Int × Unit)) : callF (E33 a24 a54 a56) lv33 N en33 c33 (resOf Try.f33) 37 [.dv (.sl (.pair (.int .i64) (.pair (.int .i64) (.unit)))) l0] [] dec33 = (a24 l0).bind fun r1 =>
      cond (r1 != (0 : Int)) (some (([] : List Int), r1))
      ((a54 l0).bind fun r2 =>
      (R33_0 a24 a54 a56 N N (Sl33a l0 r2 (0 : Int) (0 : Int)))) := by kernel_rfl
theorem k33 (a24 : (List (Int × Int × Unit)) → Option (Int)) (a54 : (List (Int × Int × Unit)) → Option (Int × List Int)) (a56 : Int → Option (List Int)) (N : Nat) (l0 : List (Int × Int × Unit)) : callF (E33 a24 a54 a56) lv33 N en33 c33 (resOf Try.f33) 37 [.dv (.sl (.pair (.int .i64) (.pair (.int .i64) (.unit)))) l0] [] dec33 = m33 a24 a54 a56 N l0 := by rw [wm33]; simp only [m33, ql33a]
theorem ok33 (a24 : (List (Int × Int × Unit)) → Option (Int)) (a54 : (List (Int × Int × Unit)) → Option (Int × List Int)) (a56 : Int → Option (List Int)) (h24 : FnOk Try.prog 24 (F24 a24)) (h54 : FnOk Try.prog 54 (F54 a54)) (h56 : FnOk Try.prog 56 (F56 a56)) (a : (List (Int × Int × Unit)) → Option (List Int × Int)) (h : ∀ l0 r, a l0 = some r → (∃ N, m33 a24 a54 a56 N l0 = some r)) : FnOk Try.prog 33 (F33 a) := by
  intro args Of x hx
  simp only [F33] at hx
  split at hx
  · rename_i l0
    obtain ⟨N, hN⟩ := h _ _ hx
    refine lifted (L := [(24, F24 a24), (54, F54 a54), (56, F56 a56)]) (rc := nrc) (fz := nfz) (fn := Try.f33) (by kernel_rfl) (by kernel_rfl) (by kernel_rfl) (by kernel_rfl) rfl ?_ ((k33 a24 a54 a56 N _).trans hN) ?_
    · intro p hp; simp only [List.mem_cons, List.not_mem_nil, or_false] at hp; rcases hp with rfl | rfl | rfl
      · exact h24
      · exact h54
      · exact h56
    · intro l o hd
      simp only [dec33] at hd
      split at hd
      · obtain rfl := Option.some.inj hd; exact ⟨rfl, rfl⟩
      · cases hd
  · cases hx
def E35 (a24 : (List (Int × Int × Unit)) → Option (Int)) (a51 : Int → Int → Int → Option (Bool)) : Env := mkE TI TY [(24, F24 a24), (51, F51 a51)] nrc nfz
noncomputable def c35 : Code := bodyOf Try.f35
def nm35_0 : Norm := ⟨[0, 1, 8, 9, 10], [], [], []⟩
def nm35_1 : Norm := ⟨[0, 1, 8, 9, 10, 11, 12], [], [], []⟩
def lv35 : Nat → Option Norm := norms [(8, nm35_0), (12, nm35_1)]
def en35 : End := ⟨[], ⟨[64, 65, 66], [], [], []⟩⟩
def dec35 (l : List TV) (o : List (Nat × TO)) : Option (Int × Int × Int) := match l, o with | [.dv (.int .i64) x0, .dv (.int .i64) x1, .dv (.int .i64) x2], [] => some (x0, x1, x2) | _, _ => none
noncomputable def K35_0 (a24 : (List (Int × Int × Unit)) → Option (Int)) (a51 : Int → Int → Int → Option (Bool)) (N : Nat) : Kont (Int × Int × Int) := kont (E35 a24 a51) lv35 N c35 [1, 1, 1, 1, 1, 0, 1, 0] (fin TI en35 (resOf Try.f35) dec35)
noncomputable def R35_0 (a24 : (List (Int × Int × Unit)) → Option (Int)) (a51 : Int → Int → Int → Option (Bool)) (N : Nat) (m : Nat) : TS → Option (Int × Int × Int) := loopK (den (E35 a24 a51) lv35 N (sub c35 [1, 1, 1, 1, 1, 0, 1, 0, 0])) (TS.norm nm35_0) (K35_0 a24 a51 N) m
noncomputable def K35_1 (a24 : (List (Int × Int × Unit)) → Option (Int)) (a51 : Int → Int → Int → Option (Bool)) (N : Nat) (T35_0 : TS → Option (Int × Int × Int)) : Kont (Int × Int × Int) := kont (E35 a24 a51) lv35 N (sub c35 [1, 1, 1, 1, 1, 0, 1, 0, 0]) [1, 0, 0, 1, 0, 1, 0] (kloop (TS.norm nm35_0) (K35_0 a24 a51 N) T35_0)
noncomputable def R35_1 (a24 : (List (Int × Int × Unit)) → Option (Int)) (a51 : Int → Int → Int → Option (Bool)) (N : Nat) (T35_0 : TS → Option (Int × Int × Int)) (m : Nat) : TS → Option (Int × Int × Int) := loopK (den (E35 a24 a51) lv35 N (sub c35 [1, 1, 1, 1, 1, 0, 1, 0, 0, 1, 0, 0, 1, 0, 1, 0, 0])) (TS.norm nm35_1) (K35_1 a24 a51 N T35_0) m
def Sl35b (l0 : List (Int × Int × Unit)) (fine1 : Int) (count8_a : Int) (day9_a : Int) (d10_a : Int) (reach11_b : Int) (i12_b : Int) : TS := ⟨slots 64 [(0, .dv (.sl (.pair (.int .i64) (.pair (.int .i64) (.unit)))) l0), (1, .dv (.int .i64) fine1), (8, .dv (.int .i64) count8_a), (9, .dv (.int .i64) day9_a), (10, .dv (.int .i64) d10_a), (11, .dv (.int .i64) reach11_b), (12, .dv (.int .i64) i12_b)], []⟩
def Sl35a (l0 : List (Int × Int × Unit)) (fine1 : Int) (count8_a : Int) (day9_a : Int) (d10_a : Int) : TS := ⟨slots 64 [(0, .dv (.sl (.pair (.int .i64) (.pair (.int .i64) (.unit)))) l0), (1, .dv (.int .i64) fine1), (8, .dv (.int .i64) count8_a), (9, .dv (.int .i64) day9_a), (10, .dv (.int .i64) d10_a)], []⟩
def l35b (a24 : (List (Int × Int × Unit)) → Option (Int)) (a51 : Int → Int → Int → Option (Bool)) (N : Nat) (l0 : List (Int × Int × Unit)) (fine1 : Int) (count8_a : Int) (day9_a : Int) (d10_a : Int) (rec_l35a : Int → Int → Int → Option (Int × Int × Int)) : Nat → Int → Int → Option (Int × Int × Int)
  | 0, _, _ => none
  | n + 1, reach11_b, i12_b => cond (decide (i12_b < (l0.length : Int))) (chk (decide (0 ≤ i12_b ∧ i12_b < (l0.length : Int))) (cond (decide ((((l0.getD i12_b.toNat ((0 : Int), ((0 : Int), ()))).2).1) ≥ fine1)) (chk (decide (0 ≤ i12_b ∧ i12_b < (l0.length : Int))) (cond (decide (((l0.getD i12_b.toNat ((0 : Int), ((0 : Int), ()))).1) > d10_a)) ((l35b a24 a51 N l0 fine1 count8_a day9_a d10_a rec_l35a n (w64 (reach11_b + (1 : Int))) (w64 (i12_b + (1 : Int)))))
      ((l35b a24 a51 N l0 fine1 count8_a day9_a d10_a rec_l35a n reach11_b (w64 (i12_b + (1 : Int)))))))
      ((l35b a24 a51 N l0 fine1 count8_a day9_a d10_a rec_l35a n reach11_b (w64 (i12_b + (1 : Int)))))))
      (cond (decide (reach11_b < count8_a)) ((rec_l35a reach11_b d10_a (w64 (d10_a + (1 : Int)))))
      ((rec_l35a count8_a day9_a (w64 (d10_a + (1 : Int))))))
theorem wl35b (a24 : (List (Int × Int × Unit)) → Option (Int)) (a51 : Int → Int → Int → Option (Bool)) (N : Nat) (l0 : List (Int × Int × Unit)) (fine1 : Int) (count8_a : Int) (day9_a : Int) (d10_a : Int) (T35_0 : TS → Option (Int × Int × Int)) (m : Nat) (reach11_b : Int) (i12_b : Int) : R35_1 a24 a51 N T35_0 (m + 1) (Sl35b l0 fine1 count8_a day9_a d10_a reach11_b i12_b) = cond (decide (i12_b < (l0.length : Int))) (chk (decide (0 ≤ i12_b ∧ i12_b < (l0.length : Int))) (cond (decide ((((l0.getD i12_b.toNat ((0 : Int), ((0 : Int), ()))).2).1) ≥ fine1)) (chk (decide (0 ≤ i12_b ∧ i12_b < (l0.length : Int))) (cond (decide (((l0.getD i12_b.toNat ((0 : Int), ((0 : Int), ()))).1) > d10_a)) ((R35_1 a24 a51 N T35_0 m (Sl35b l0 fine1 count8_a day9_a d10_a (w64 (reach11_b + (1 : Int))) (w64 (i12_b + (1 : Int))))))
      ((R35_1 a24 a51 N T35_0 m (Sl35b l0 fine1 count8_a day9_a d10_a reach11_b (w64 (i12_b + (1 : Int))))))))
      ((R35_1 a24 a51 N T35_0 m (Sl35b l0 fine1 count8_a day9_a d10_a reach11_b (w64 (i12_b + (1 : Int))))))))
      (cond (decide (reach11_b < count8_a)) ((T35_0 (Sl35a l0 fine1 reach11_b d10_a (w64 (d10_a + (1 : Int))))))
      ((T35_0 (Sl35a l0 fine1 count8_a day9_a (w64 (d10_a + (1 : Int))))))) := by kernel_rfl
theorem ql35b (a24 : (List (Int × Int × Unit)) → Option (Int)) (a51 : Int → Int → Int → Option (Bool)) (N : Nat) (l0 : List (Int × Int × Unit)) (fine1 : Int) (count8_a : Int) (day9_a : Int) (d10_a : Int) (T35_0 : TS → Option (Int × Int × Int)) : ∀ (m : Nat) (reach11_b : Int) (i12_b : Int), R35_1 a24 a51 N T35_0 m (Sl35b l0 fine1 count8_a day9_a d10_a reach11_b i12_b) = l35b a24 a51 N l0 fine1 count8_a day9_a d10_a (fun y0 y1 y2 => T35_0 (Sl35a l0 fine1 y0 y1 y2)) m reach11_b i12_b
        | 0, _, _ => rfl
        | m + 1, reach11_b, i12_b => by rw [wl35b]; simp only [l35b, ql35b a24 a51 N l0 fine1 count8_a day9_a d10_a T35_0 m]
def l35a (a24 : (List (Int × Int × Unit)) → Option (Int)) (a51 : Int → Int → Int → Option (Bool)) (N : Nat) (l0 : List (Int × Int × Unit)) (fine1 : Int) : Nat → Int → Int → Int → Option (Int × Int × Int)
  | 0, _, _, _ => none
  | n + 1, count8_a, day9_a, d10_a => cond (decide (d10_a ≤ (30 : Int))) ((l35b a24 a51 N l0 fine1 count8_a day9_a d10_a (fun y0 y1 y2 => (l35a a24 a51 N l0 fine1 n y0 y1 y2)) N d10_a (0 : Int)))
      (some (count8_a, day9_a, (0 : Int)))
theorem wl35a (a24 : (List (Int × Int × Unit)) → Option (Int)) (a51 : Int → Int → Int → Option (Bool)) (N : Nat) (l0 : List (Int × Int × Unit)) (fine1 : Int) (m : Nat) (count8_a : Int) (day9_a : Int) (d10_a : Int) : R35_0 a24 a51 N (m + 1) (Sl35a l0 fine1 count8_a day9_a d10_a) = cond (decide (d10_a ≤ (30 : Int))) ((R35_1 a24 a51 N (R35_0 a24 a51 N m) N (Sl35b l0 fine1 count8_a day9_a d10_a d10_a (0 : Int))))
      (some (count8_a, day9_a, (0 : Int))) := by kernel_rfl
theorem ql35a (a24 : (List (Int × Int × Unit)) → Option (Int)) (a51 : Int → Int → Int → Option (Bool)) (N : Nat) (l0 : List (Int × Int × Unit)) (fine1 : Int) : ∀ (m : Nat) (count8_a : Int) (day9_a : Int) (d10_a : Int), R35_0 a24 a51 N m (Sl35a l0 fine1 count8_a day9_a d10_a) = l35a a24 a51 N l0 fine1 m count8_a day9_a d10_a
        | 0, _, _, _ => rfl
        | m + 1, count8_a, day9_a, d10_a => by rw [wl35a]; simp only [l35a, ql35b, ql35a a24 a51 N l0 fine1 m]
def m35 (a24 : (List (Int × Int × Unit)) → Option (Int)) (a51 : Int → Int → Int → Option (Bool)) (N : Nat) (l0 : List (Int × Int × Unit)) (fine1 : Int) : Option (Int × Int × Int) :=
      (a24 l0).bind fun r1 =>
      cond (r1 == (0 : Int)) ((a51 fine1 (0 : Int) (10000 : Int)).bind fun r2 =>
      cond (!r2) (some ((0 : Int), (0 : Int), (4 : Int)))
      (cond (r1 != (0 : Int)) (some ((0 : Int), (0 : Int), r1))
      ((l35a a24 a51 N l0 fine1 N (w64 ((l0.length : Int) + (1 : Int))) (0 : Int) (0 : Int)))))
      (cond (r1 != (0 : Int)) (some ((0 : Int), (0 : Int), r1))
      ((l35a a24 a51 N l0 fine1 N (w64 ((l0.length : Int) + (1 : Int))) (0 : Int) (0 : Int))))
theorem wm35 (a24 : (List (Int × Int × Unit)) → Option (Int)) (a51 : Int → Int → Int → Option (Bool)) (N : Nat) (l0 : List (Int × Int × Unit)) (fine1 : Int) : callF (E35 a24 a51) lv35 N en35 c35 (resOf Try.f35) 62 [.dv (.sl (.pair (.int .i64) (.pair (.int .i64) (.unit)))) l0, .dv (.int .i64) fine1] [] dec35 = (a24 l0).bind fun r1 =>
      cond (r1 == (0 : Int)) ((a51 fine1 (0 : Int) (10000 : Int)).bind fun r2 =>
      cond (!r2) (some ((0 : Int), (0 : Int), (4 : Int)))
      (cond (r1 != (0 : Int)) (some ((0 : Int), (0 : Int), r1))
      ((R35_0 a24 a51 N N (Sl35a l0 fine1 (w64 ((l0.length : Int) + (1 : Int))) (0 : Int) (0 : Int))))))
      (cond (r1 != (0 : Int)) (some ((0 : Int), (0 : Int), r1))
      ((R35_0 a24 a51 N N (Sl35a l0 fine1 (w64 ((l0.length : Int) + (1 : Int))) (0 : Int) (0 : Int))))) := by kernel_rfl
theorem k35 (a24 : (List (Int × Int × Unit)) → Option (Int)) (a51 : Int → Int → Int → Option (Bool)) (N : Nat) (l0 : List (Int × Int × Unit)) (fine1 : Int) : callF (E35 a24 a51) lv35 N en35 c35 (resOf Try.f35) 62 [.dv (.sl (.pair (.int .i64) (.pair (.int .i64) (.unit)))) l0, .dv (.int .i64) fine1] [] dec35 = m35 a24 a51 N l0 fine1 := by rw [wm35]; simp only [m35, ql35a]
theorem ok35 (a24 : (List (Int × Int × Unit)) → Option (Int)) (a51 : Int → Int → Int → Option (Bool)) (h24 : FnOk Try.prog 24 (F24 a24)) (h51 : FnOk Try.prog 51 (F51 a51)) (a : (List (Int × Int × Unit)) → Int → Option (Int × Int × Int)) (h : ∀ l0 fine1 r, a l0 fine1 = some r → (∃ N, m35 a24 a51 N l0 fine1 = some r)) : FnOk Try.prog 35 (F35 a) := by
  intro args Of x hx
  simp only [F35] at hx
  split at hx
  · rename_i l0 fine1
    obtain ⟨N, hN⟩ := h _ _ _ hx
    refine lifted (L := [(24, F24 a24), (51, F51 a51)]) (rc := nrc) (fz := nfz) (fn := Try.f35) (by kernel_rfl) (by kernel_rfl) (by kernel_rfl) (by kernel_rfl) rfl ?_ ((k35 a24 a51 N _ _).trans hN) ?_
    · intro p hp; simp only [List.mem_cons, List.not_mem_nil, or_false] at hp; rcases hp with rfl | rfl
      · exact h24
      · exact h51
    · intro l o hd
      simp only [dec35] at hd
      split at hd
      · obtain rfl := Option.some.inj hd; exact ⟨rfl, rfl⟩
      · cases hd
  · cases hx
def E37 (a24 : (List (Int × Int × Unit)) → Option (Int)) (a51 : Int → Int → Int → Option (Bool)) (a54 : (List (Int × Int × Unit)) → Option (Int × List Int)) : Env := mkE TI TY [(24, F24 a24), (51, F51 a51), (54, F54 a54)] nrc nfz
noncomputable def c37 : Code := bodyOf Try.f37
def nm37_0 : Norm := ⟨[0, 1, 8], [], [(.slot 7, 1007, .pair (.int .i64) (.pair (.int .i64) (.unit)))], []⟩
def lv37 : Nat → Option Norm := norms [(8, nm37_0)]
def en37 : End := ⟨[], ⟨[51, 52], [], [], []⟩⟩
def dec37 (l : List TV) (o : List (Nat × TO)) : Option (Int × Int) := match l, o with | [.dv (.int .i64) x0, .dv (.int .i64) x1], [] => some (x0, x1) | _, _ => none
noncomputable def K37_0 (a24 : (List (Int × Int × Unit)) → Option (Int)) (a51 : Int → Int → Int → Option (Bool)) (a54 : (List (Int × Int × Unit)) → Option (Int × List Int)) (N : Nat) : Kont (Int × Int) := kont (E37 a24 a51 a54) lv37 N c37 [1, 1, 1, 1, 1, 0, 1, 0] (fin TI en37 (resOf Try.f37) dec37)
noncomputable def R37_0 (a24 : (List (Int × Int × Unit)) → Option (Int)) (a51 : Int → Int → Int → Option (Bool)) (a54 : (List (Int × Int × Unit)) → Option (Int × List Int)) (N : Nat) (m : Nat) : TS → Option (Int × Int) := loopK (den (E37 a24 a51 a54) lv37 N (sub c37 [1, 1, 1, 1, 1, 0, 1, 0, 0])) (TS.norm nm37_0) (K37_0 a24 a51 a54 N) m
def Sl37a (l0 : List (Int × Int × Unit)) (days1 : Int) (i8_a : Int) (moved7_a : List (Int × Int × Unit)) : TS := ⟨slots 51 [(0, .dv (.sl (.pair (.int .i64) (.pair (.int .i64) (.unit)))) l0), (1, .dv (.int .i64) days1), (7, .row 1007), (8, .dv (.int .i64) i8_a)], [(1007, .row (.pair (.int .i64) (.pair (.int .i64) (.unit))) moved7_a)]⟩
def l37a (a24 : (List (Int × Int × Unit)) → Option (Int)) (a51 : Int → Int → Int → Option (Bool)) (a54 : (List (Int × Int × Unit)) → Option (Int × List Int)) (N : Nat) (l0 : List (Int × Int × Unit)) (days1 : Int) : Nat → Int → (List (Int × Int × Unit)) → Option (Int × Int)
  | 0, _, _ => none
  | n + 1, i8_a, moved7_a => cond (decide (i8_a < (l0.length : Int))) (chk (decide (0 ≤ i8_a ∧ i8_a < (l0.length : Int))) (chk (decide (0 ≤ i8_a ∧ i8_a < (l0.length : Int))) (chk (small (moved7_a.length + 1) 16) ((l37a a24 a51 a54 N l0 days1 n (w64 (i8_a + (1 : Int))) (moved7_a ++ ([(w64 (((l0.getD i8_a.toNat ((0 : Int), ((0 : Int), ()))).1) + days1), (((l0.getD i8_a.toNat ((0 : Int), ((0 : Int), ()))).2).1, ()))] : List (Int × Int × Unit))))))))
      ((a54 moved7_a).bind fun r3 =>
      some (r3.1, (0 : Int)))
theorem wl37a (a24 : (List (Int × Int × Unit)) → Option (Int)) (a51 : Int → Int → Int → Option (Bool)) (a54 : (List (Int × Int × Unit)) → Option (Int × List Int)) (N : Nat) (l0 : List (Int × Int × Unit)) (days1 : Int) (m : Nat) (i8_a : Int) (moved7_a : List (Int × Int × Unit)) : R37_0 a24 a51 a54 N (m + 1) (Sl37a l0 days1 i8_a moved7_a) = cond (decide (i8_a < (l0.length : Int))) (chk (decide (0 ≤ i8_a ∧ i8_a < (l0.length : Int))) (chk (decide (0 ≤ i8_a ∧ i8_a < (l0.length : Int))) (chk (small (moved7_a.length + 1) 16) ((R37_0 a24 a51 a54 N m (Sl37a l0 days1 (w64 (i8_a + (1 : Int))) (moved7_a ++ ([(w64 (((l0.getD i8_a.toNat ((0 : Int), ((0 : Int), ()))).1) + days1), (((l0.getD i8_a.toNat ((0 : Int), ((0 : Int), ()))).2).1, ()))] : List (Int × Int × Unit)))))))))
      ((a54 moved7_a).bind fun r3 =>
      some (r3.1, (0 : Int))) := by kernel_rfl
theorem ql37a (a24 : (List (Int × Int × Unit)) → Option (Int)) (a51 : Int → Int → Int → Option (Bool)) (a54 : (List (Int × Int × Unit)) → Option (Int × List Int)) (N : Nat) (l0 : List (Int × Int × Unit)) (days1 : Int) : ∀ (m : Nat) (i8_a : Int) (moved7_a : List (Int × Int × Unit)), R37_0 a24 a51 a54 N m (Sl37a l0 days1 i8_a moved7_a) = l37a a24 a51 a54 N l0 days1 m i8_a moved7_a
        | 0, _, _ => rfl
        | m + 1, i8_a, moved7_a => by rw [wl37a]; simp only [l37a, ql37a a24 a51 a54 N l0 days1 m]
def m37 (a24 : (List (Int × Int × Unit)) → Option (Int)) (a51 : Int → Int → Int → Option (Bool)) (a54 : (List (Int × Int × Unit)) → Option (Int × List Int)) (N : Nat) (l0 : List (Int × Int × Unit)) (days1 : Int) : Option (Int × Int) :=
      (a24 l0).bind fun r1 =>
      cond (r1 == (0 : Int)) ((a51 days1 (0 : Int) (30 : Int)).bind fun r2 =>
      cond (!r2) (some ((0 : Int), (4 : Int)))
      (cond (r1 != (0 : Int)) (some ((0 : Int), r1))
      ((l37a a24 a51 a54 N l0 days1 N (0 : Int) ([] : List (Int × Int × Unit))))))
      (cond (r1 != (0 : Int)) (some ((0 : Int), r1))
      ((l37a a24 a51 a54 N l0 days1 N (0 : Int) ([] : List (Int × Int × Unit)))))
theorem wm37 (a24 : (List (Int × Int × Unit)) → Option (Int)) (a51 : Int → Int → Int → Option (Bool)) (a54 : (List (Int × Int × Unit)) → Option (Int × List Int)) (N : Nat) (l0 : List (Int × Int × Unit)) (days1 : Int) : callF (E37 a24 a51 a54) lv37 N en37 c37 (resOf Try.f37) 49 [.dv (.sl (.pair (.int .i64) (.pair (.int .i64) (.unit)))) l0, .dv (.int .i64) days1] [] dec37 = (a24 l0).bind fun r1 =>
      cond (r1 == (0 : Int)) ((a51 days1 (0 : Int) (30 : Int)).bind fun r2 =>
      cond (!r2) (some ((0 : Int), (4 : Int)))
      (cond (r1 != (0 : Int)) (some ((0 : Int), r1))
      ((R37_0 a24 a51 a54 N N (Sl37a l0 days1 (0 : Int) ([] : List (Int × Int × Unit)))))))
      (cond (r1 != (0 : Int)) (some ((0 : Int), r1))
      ((R37_0 a24 a51 a54 N N (Sl37a l0 days1 (0 : Int) ([] : List (Int × Int × Unit)))))) := by kernel_rfl
theorem k37 (a24 : (List (Int × Int × Unit)) → Option (Int)) (a51 : Int → Int → Int → Option (Bool)) (a54 : (List (Int × Int × Unit)) → Option (Int × List Int)) (N : Nat) (l0 : List (Int × Int × Unit)) (days1 : Int) : callF (E37 a24 a51 a54) lv37 N en37 c37 (resOf Try.f37) 49 [.dv (.sl (.pair (.int .i64) (.pair (.int .i64) (.unit)))) l0, .dv (.int .i64) days1] [] dec37 = m37 a24 a51 a54 N l0 days1 := by rw [wm37]; simp only [m37, ql37a]
theorem ok37 (a24 : (List (Int × Int × Unit)) → Option (Int)) (a51 : Int → Int → Int → Option (Bool)) (a54 : (List (Int × Int × Unit)) → Option (Int × List Int)) (h24 : FnOk Try.prog 24 (F24 a24)) (h51 : FnOk Try.prog 51 (F51 a51)) (h54 : FnOk Try.prog 54 (F54 a54)) (a : (List (Int × Int × Unit)) → Int → Option (Int × Int)) (h : ∀ l0 days1 r, a l0 days1 = some r → (∃ N, m37 a24 a51 a54 N l0 days1 = some r)) : FnOk Try.prog 37 (F37 a) := by
  intro args Of x hx
  simp only [F37] at hx
  split at hx
  · rename_i l0 days1
    obtain ⟨N, hN⟩ := h _ _ _ hx
    refine lifted (L := [(24, F24 a24), (51, F51 a51), (54, F54 a54)]) (rc := nrc) (fz := nfz) (fn := Try.f37) (by kernel_rfl) (by kernel_rfl) (by kernel_rfl) (by kernel_rfl) rfl ?_ ((k37 a24 a51 a54 N _ _).trans hN) ?_
    · intro p hp; simp only [List.mem_cons, List.not_mem_nil, or_false] at hp; rcases hp with rfl | rfl | rfl
      · exact h24
      · exact h51
      · exact h54
    · intro l o hd
      simp only [dec37] at hd
      split at hd
      · obtain rfl := Option.some.inj hd; exact ⟨rfl, rfl⟩
      · cases hd
  · cases hx
def E39 (a24 : (List (Int × Int × Unit)) → Option (Int)) (a51 : Int → Int → Int → Option (Bool)) (a54 : (List (Int × Int × Unit)) → Option (Int × List Int)) : Env := mkE TI TY [(24, F24 a24), (51, F51 a51), (54, F54 a54)] nrc nfz
noncomputable def c39 : Code := bodyOf Try.f39
def lv39 : Nat → Option Norm := norms []
def en39 : End := ⟨[], ⟨[48, 49], [], [], []⟩⟩
def dec39 (l : List TV) (o : List (Nat × TO)) : Option (Int × Int) := match l, o with | [.dv (.int .i64) x0, .dv (.int .i64) x1], [] => some (x0, x1) | _, _ => none
def m39 (a24 : (List (Int × Int × Unit)) → Option (Int)) (a51 : Int → Int → Int → Option (Bool)) (a54 : (List (Int × Int × Unit)) → Option (Int × List Int)) (N : Nat) (l0 : List (Int × Int × Unit)) (order1 : Int) : Option (Int × Int) :=
      (a24 l0).bind fun r1 =>
      cond (r1 == (0 : Int)) ((a51 order1 (0 : Int) (w64 ((l0.length : Int) - (1 : Int)))).bind fun r2 =>
      cond (!r2) (some ((0 : Int), (5 : Int)))
      (cond (r1 != (0 : Int)) (some ((0 : Int), r1))
      ((a54 l0).bind fun r3 =>
      chk (decide (0 ≤ order1 ∧ order1 ≤ (l0.length : Int))) (chk (small (0 + (l0.take order1.toNat).length) 16) (chk (decide (0 ≤ w64 (order1 + (1 : Int)) ∧ w64 (order1 + (1 : Int)) ≤ (l0.length : Int))) (chk (small ((([] : List (Int × Int × Unit)) ++ (l0.take order1.toNat)).length + (l0.drop ((w64 (order1 + (1 : Int))).toNat)).length) 16) ((a54 ((([] : List (Int × Int × Unit)) ++ (l0.take order1.toNat)) ++ (l0.drop ((w64 (order1 + (1 : Int))).toNat)))).bind fun r4 =>
      some (w64 (r3.1 - r4.1), (0 : Int)))))))))
      (cond (r1 != (0 : Int)) (some ((0 : Int), r1))
      ((a54 l0).bind fun r5 =>
      chk (decide (0 ≤ order1 ∧ order1 ≤ (l0.length : Int))) (chk (small (0 + (l0.take order1.toNat).length) 16) (chk (decide (0 ≤ w64 (order1 + (1 : Int)) ∧ w64 (order1 + (1 : Int)) ≤ (l0.length : Int))) (chk (small ((([] : List (Int × Int × Unit)) ++ (l0.take order1.toNat)).length + (l0.drop ((w64 (order1 + (1 : Int))).toNat)).length) 16) ((a54 ((([] : List (Int × Int × Unit)) ++ (l0.take order1.toNat)) ++ (l0.drop ((w64 (order1 + (1 : Int))).toNat)))).bind fun r6 =>
      some (w64 (r5.1 - r6.1), (0 : Int))))))))
theorem k39 (a24 : (List (Int × Int × Unit)) → Option (Int)) (a51 : Int → Int → Int → Option (Bool)) (a54 : (List (Int × Int × Unit)) → Option (Int × List Int)) (N : Nat) (l0 : List (Int × Int × Unit)) (order1 : Int) : callF (E39 a24 a51 a54) lv39 N en39 c39 (resOf Try.f39) 46 [.dv (.sl (.pair (.int .i64) (.pair (.int .i64) (.unit)))) l0, .dv (.int .i64) order1] [] dec39 = m39 a24 a51 a54 N l0 order1 := by kernel_rfl
theorem ok39 (a24 : (List (Int × Int × Unit)) → Option (Int)) (a51 : Int → Int → Int → Option (Bool)) (a54 : (List (Int × Int × Unit)) → Option (Int × List Int)) (h24 : FnOk Try.prog 24 (F24 a24)) (h51 : FnOk Try.prog 51 (F51 a51)) (h54 : FnOk Try.prog 54 (F54 a54)) (a : (List (Int × Int × Unit)) → Int → Option (Int × Int)) (h : ∀ l0 order1 r, a l0 order1 = some r → (∃ N, m39 a24 a51 a54 N l0 order1 = some r)) : FnOk Try.prog 39 (F39 a) := by
  intro args Of x hx
  simp only [F39] at hx
  split at hx
  · rename_i l0 order1
    obtain ⟨N, hN⟩ := h _ _ _ hx
    refine lifted (L := [(24, F24 a24), (51, F51 a51), (54, F54 a54)]) (rc := nrc) (fz := nfz) (fn := Try.f39) (by kernel_rfl) (by kernel_rfl) (by kernel_rfl) (by kernel_rfl) rfl ?_ ((k39 a24 a51 a54 N _ _).trans hN) ?_
    · intro p hp; simp only [List.mem_cons, List.not_mem_nil, or_false] at hp; rcases hp with rfl | rfl | rfl
      · exact h24
      · exact h51
      · exact h54
    · intro l o hd
      simp only [dec39] at hd
      split at hd
      · obtain rfl := Option.some.inj hd; exact ⟨rfl, rfl⟩
      · cases hd
  · cases hx
end Go.Proofs.Ytbblnbolabpfmaa
