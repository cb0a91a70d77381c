/-
  The functions that the law reaches, told as plain functions.
-/
import Derived.Test.YtjcgjbdlgmbepaaWM0
namespace Go.Proofs.Ytjcgjbdlgmbepaa
open Go.RowKit
set_option linter.unusedVariables false
def E31 : Env := mkE TI TY [] nrc nfz
noncomputable def c31 : Code := bodyOf Try.f31
def nm31_0 : Norm := ⟨[0, 3], [], [], []⟩
def lv31 : Nat → Option Norm := norms [(4, nm31_0)]
def en31 : End := ⟨[], ⟨[29], [], [], []⟩⟩
def dec31 (l : List TV) (o : List (Nat × TO)) : Option (Bool) := match l, o with | [.dv (.bool) x0], [] => some (x0) | _, _ => none
noncomputable def K31_0 (N : Nat) : Kont (Bool) := kont (E31) lv31 N c31 [1, 1, 0, 1, 0] (fin TI en31 (resOf Try.f31) dec31)
noncomputable def R31_0 (N : Nat) (m : Nat) : TS → Option (Bool) := loopK (den (E31) lv31 N (sub c31 [1, 1, 0, 1, 0, 0])) (TS.norm nm31_0) (K31_0 N) m
def Sl31a (l0 : List (List Int × List Int × Unit)) (i3_a : Int) : TS := ⟨slots 29 [(0, .dv (.sl (.pair (.sl (.int .i64)) (.pair (.sl (.int .i64)) (.unit)))) l0), (3, .dv (.int .i64) i3_a)], []⟩
def l31a (N : Nat) (l0 : List (List Int × List Int × Unit)) : Nat → Int → Option (Bool)
  | 0, _ => none
  | n + 1, i3_a => cond (decide (i3_a < (l0.length : Int))) (chk (decide (0 ≤ i3_a ∧ i3_a < (l0.length : Int))) (cond (decide ((((l0.getD i3_a.toNat (([] : List Int), (([] : List Int), ()))).1).length : Int) > (40 : Int))) (some true)
      (chk (decide (0 ≤ i3_a ∧ i3_a < (l0.length : Int))) (cond (decide (((((l0.getD i3_a.toNat (([] : List Int), (([] : List Int), ()))).2).1).length : Int) > (40 : Int))) (some true)
      ((l31a N l0 n (w64 (i3_a + (1 : Int)))))))))
      (some false)
theorem wl31a (N : Nat) (l0 : List (List Int × List Int × Unit)) (m : Nat) (i3_a : Int) : R31_0 N (m + 1) (Sl31a l0 i3_a) = cond (decide (i3_a < (l0.length : Int))) (chk (decide (0 ≤ i3_a ∧ i3_a < (l0.length : Int))) (cond (decide ((((l0.getD i3_a.toNat (([] : List Int), (([] : List Int), ()))).1).length : Int) > (40 : Int))) (some true)
      (chk (decide (0 ≤ i3_a ∧ i3_a < (l0.length : Int))) (cond (decide (((((l0.getD i3_a.toNat (([] : List Int), (([] : List Int), ()))).2).1).length : Int) > (40 : Int))) (some true)
      ((R31_0 N m (Sl31a l0 (w64 (i3_a + (1 : Int))))))))))
      (some false) := by kernel_rfl
theorem ql31a (N : Nat) (l0 : List (List Int × List Int × Unit)) : ∀ (m : Nat) (i3_a : Int), R31_0 N m (Sl31a l0 i3_a) = l31a N l0 m i3_a
        | 0, _ => rfl
        | m + 1, i3_a => by rw [wl31a]; simp only [l31a, ql31a N l0 m]
def m31 (N : Nat) (l0 : List (List Int × List Int × Unit)) : Option (Bool) :=
      cond (decide ((l0.length : Int) > (20 : Int))) (some true)
      ((l31a N l0 N (0 : Int)))
theorem wm31 (N : Nat) (l0 : List (List Int × List Int × Unit)) : callF (E31) lv31 N en31 c31 (resOf Try.f31) 28 [.dv (.sl (.pair (.sl (.int .i64)) (.pair (.sl (.int .i64)) (.unit)))) l0] [] dec31 = cond (decide ((l0.length : Int) > (20 : Int))) (some true)
      ((R31_0 N N (Sl31a l0 (0 : Int)))) := by kernel_rfl
theorem k31 (N : Nat) (l0 : List (List Int × List Int × Unit)) : callF (E31) lv31 N en31 c31 (resOf Try.f31) 28 [.dv (.sl (.pair (.sl (.int .i64)) (.pair (.sl (.int .i64)) (.unit)))) l0] [] dec31 = m31 N l0 := by rw [wm31]; simp only [m31, ql31a]
theorem ok31 (a : (List (List Int × List Int × Unit)) → Option (Bool)) (h : ∀ l0 r, a l0 = some r → (∃ N, m31 N l0 = some r)) : FnOk Try.prog 31 (F31 a) := by
  intro args Of x hx
  simp only [F31] at hx
  split at hx
  · rename_i l0
    obtain ⟨N, hN⟩ := h _ _ hx
    refine lifted (L := []) (rc := nrc) (fz := nfz) (fn := Try.f31) (by kernel_rfl) (by kernel_rfl) (by kernel_rfl) (by kernel_rfl) rfl ?_ ((k31 N _).trans hN) ?_
    · intro p hp; cases hp
    · intro l o hd
      simp only [dec31] at hd
      split at hd
      · obtain rfl := Option.some.inj hd; exact ⟨rfl, rfl⟩
      · cases hd
  · cases hx
def E32 : Env := mkE TI TY [] nrc nfz
noncomputable def c32 : Code := bodyOf Try.f32
def nm32_0 : Norm := ⟨[0, 4], [], [(.slot 3, 1003, .pair (.sl (.int .i64)) (.pair (.sl (.int .i64)) (.unit)))], []⟩
def lv32 : Nat → Option Norm := norms [(3, nm32_0)]
def en32 : End := ⟨[(19, .sl (.pair (.sl (.int .i64)) (.pair (.sl (.int .i64)) (.unit))))], ⟨[19], [], [], []⟩⟩
def dec32 (l : List TV) (o : List (Nat × TO)) : Option (List (List Int × List Int × Unit)) := match l, o with | [.dv (.sl (.pair (.sl (.int .i64)) (.pair (.sl (.int .i64)) (.unit)))) x0], [] => some (x0) | _, _ => none
noncomputable def K32_0 (N : Nat) : Kont (List (List Int × List Int × Unit)) := kont (E32) lv32 N c32 [1, 1, 0, 1, 0] (fin TI en32 (resOf Try.f32) dec32)
noncomputable def R32_0 (N : Nat) (m : Nat) : TS → Option (List (List Int × List Int × Unit)) := loopK (den (E32) lv32 N (sub c32 [1, 1, 0, 1, 0, 0])) (TS.norm nm32_0) (K32_0 N) m
def Sl32a (l0 : List (List Int × List Int × Unit)) (i4_a : Int) (out3_a : List (List Int × List Int × Unit)) : TS := ⟨slots 19 [(0, .dv (.sl (.pair (.sl (.int .i64)) (.pair (.sl (.int .i64)) (.unit)))) l0), (3, .row 1003), (4, .dv (.int .i64) i4_a)], [(1003, .row (.pair (.sl (.int .i64)) (.pair (.sl (.int .i64)) (.unit))) out3_a)]⟩
def l32a (N : Nat) (l0 : List (List Int × List Int × Unit)) : Nat → Int → (List (List Int × List Int × Unit)) → Option (List (List Int × List Int × Unit))
  | 0, _, _ => none
  | n + 1, i4_a, out3_a => cond (decide (i4_a < (l0.length : Int))) (chk (decide (0 ≤ i4_a ∧ i4_a < (l0.length : Int))) (chk (small (out3_a.length + 1) 48) ((l32a N l0 n (w64 (i4_a + (1 : Int))) (out3_a ++ ([l0.getD i4_a.toNat (([] : List Int), (([] : List Int), ()))] : List (List Int × List Int × Unit)))))))
      (some out3_a)
theorem wl32a (N : Nat) (l0 : List (List Int × List Int × Unit)) (m : Nat) (i4_a : Int) (out3_a : List (List Int × List Int × Unit)) : R32_0 N (m + 1) (Sl32a l0 i4_a out3_a) = cond (decide (i4_a < (l0.length : Int))) (chk (decide (0 ≤ i4_a ∧ i4_a < (l0.length : Int))) (chk (small (out3_a.length + 1) 48) ((R32_0 N m (Sl32a l0 (w64 (i4_a + (1 : Int))) (out3_a ++ ([l0.getD i4_a.toNat (([] : List Int), (([] : List Int), ()))] : List (List Int × List Int × Unit))))))))
      (some out3_a) := by kernel_rfl
theorem ql32a (N : Nat) (l0 : List (List Int × List Int × Unit)) : ∀ (m : Nat) (i4_a : Int) (out3_a : List (List Int × List Int × Unit)), R32_0 N m (Sl32a l0 i4_a out3_a) = l32a N l0 m i4_a out3_a
        | 0, _, _ => rfl
        | m + 1, i4_a, out3_a => by rw [wl32a]; simp only [l32a, ql32a N l0 m]
def m32 (N : Nat) (l0 : List (List Int × List Int × Unit)) : Option (List (List Int × List Int × Unit)) :=
      (l32a N l0 N (0 : Int) ([] : List (List Int × List Int × Unit)))
theorem wm32 (N : Nat) (l0 : List (List Int × List Int × Unit)) : callF (E32) lv32 N en32 c32 (resOf Try.f32) 18 [.dv (.sl (.pair (.sl (.int .i64)) (.pair (.sl (.int .i64)) (.unit)))) l0] [] dec32 = (R32_0 N N (Sl32a l0 (0 : Int) ([] : List (List Int × List Int × Unit)))) := by kernel_rfl
theorem k32 (N : Nat) (l0 : List (List Int × List Int × Unit)) : callF (E32) lv32 N en32 c32 (resOf Try.f32) 18 [.dv (.sl (.pair (.sl (.int .i64)) (.pair (.sl (.int .i64)) (.unit)))) l0] [] dec32 = m32 N l0 := by rw [wm32]; simp only [m32, ql32a]
theorem ok32 (a : (List (List Int × List Int × Unit)) → Option (List (List Int × List Int × Unit))) (h : ∀ l0 r, a l0 = some r → (∃ N, m32 N l0 = some r)) : FnOk Try.prog 32 (F32 a) := by
  intro args Of x hx
  simp only [F32] at hx
  split at hx
  · rename_i l0
    obtain ⟨N, hN⟩ := h _ _ hx
    refine lifted (L := []) (rc := nrc) (fz := nfz) (fn := Try.f32) (by kernel_rfl) (by kernel_rfl) (by kernel_rfl) (by kernel_rfl) rfl ?_ ((k32 N _).trans hN) ?_
    · intro p hp; cases hp
    · intro l o hd
      simp only [dec32] at hd
      split at hd
      · obtain rfl := Option.some.inj hd; exact ⟨rfl, rfl⟩
      · cases hd
  · cases hx
def E79 : Env := mkE TI TY [] nrc nfz
noncomputable def c79 : Code := bodyOf Try.f79
def lv79 : Nat → Option Norm := norms []
def en79 : End := ⟨[], ⟨[15], [], [], []⟩⟩
def dec79 (l : List TV) (o : List (Nat × TO)) : Option (Bool) := match l, o with | [.dv (.bool) x0], [] => some (x0) | _, _ => none
def m79 (N : Nat) (n0 : Int) (lo1 : Int) (hi2 : Int) : Option (Bool) :=
      cond (decide (n0 ≥ lo1)) (some (decide (n0 ≤ hi2)))
      (some false)
theorem k79 (N : Nat) (n0 : Int) (lo1 : Int) (hi2 : Int) : callF (E79) lv79 N en79 c79 (resOf Try.f79) 12 [.dv (.int .i64) n0, .dv (.int .i64) lo1, .dv (.int .i64) hi2] [] dec79 = m79 N n0 lo1 hi2 := by kernel_rfl
theorem ok79 (a : Int → Int → Int → Option (Bool)) (h : ∀ n0 lo1 hi2 r, a n0 lo1 hi2 = some r → (∃ N, m79 N n0 lo1 hi2 = some r)) : FnOk Try.prog 79 (F79 a) := by
  intro args Of x hx
  simp only [F79] at hx
  split at hx
  · rename_i n0 lo1 hi2
    obtain ⟨N, hN⟩ := h _ _ _ _ hx
    refine lifted (L := []) (rc := nrc) (fz := nfz) (fn := Try.f79) (by kernel_rfl) (by kernel_rfl) (by kernel_rfl) (by kernel_rfl) rfl ?_ ((k79 N _ _ _).trans hN) ?_
    · intro p hp; cases hp
    · intro l o hd
      simp only [dec79] at hd
      split at hd
      · obtain rfl := Option.some.inj hd; exact ⟨rfl, rfl⟩
      · cases hd
  · cases hx
def E58 (a79 : Int → Int → Int → Option (Bool)) : Env := mkE TI TY [(79, F79 a79)] nrc nfz
noncomputable def c58 : Code := bodyOf Try.f58
def lv58 : Nat → Option Norm := norms []
def en58 : End := ⟨[], ⟨[11], [], [], []⟩⟩
def dec58 (l : List TV) (o : List (Nat × TO)) : Option (Bool) := match l, o with | [.dv (.bool) x0], [] => some (x0) | _, _ => none
def m58 (a79 : Int → Int → Int → Option (Bool)) (N : Nat) (n0 : Int) (lo1 : Int) (hi2 : Int) : Option (Bool) :=
      (a79 n0 lo1 hi2).bind fun r1 =>
      some r1
theorem k58 (a79 : Int → Int → Int → Option (Bool)) (N : Nat) (n0 : Int) (lo1 : Int) (hi2 : Int) : callF (E58 a79) lv58 N en58 c58 (resOf Try.f58) 8 [.dv (.int .i64) n0, .dv (.int .i64) lo1, .dv (.int .i64) hi2] [] dec58 = m58 a79 N n0 lo1 hi2 := by kernel_rfl
theorem ok58 (a79 : Int → Int → Int → Option (Bool)) (h79 : FnOk Try.prog 79 (F79 a79)) (a : Int → Int → Int → Option (Bool)) (h : ∀ n0 lo1 hi2 r, a n0 lo1 hi2 = some r → (∃ N, m58 a79 N n0 lo1 hi2 = some r)) : FnOk Try.prog 58 (F58 a) := by
  intro args Of x hx
  simp only [F58] at hx
  split at hx
  · rename_i n0 lo1 hi2
    obtain ⟨N, hN⟩ := h _ _ _ _ hx
    refine lifted (L := [(79, F79 a79)]) (rc := nrc) (fz := nfz) (fn := Try.f58) (by kernel_rfl) (by kernel_rfl) (by kernel_rfl) (by kernel_rfl) rfl ?_ ((k58 a79 N _ _ _).trans hN) ?_
    · intro p hp; simp only [List.mem_cons, List.not_mem_nil, or_false] at hp; rcases hp with rfl; exact h79
    · intro l o hd
      simp only [dec58] at hd
      split at hd
      · obtain rfl := Option.some.inj hd; exact ⟨rfl, rfl⟩
      · cases hd
  · cases hx
def E81 : Env := mkE TI TY [] nrc nfz
noncomputable def c81 : Code := bodyOf Try.f81
def nm81_0 : Norm := ⟨[0, 1, 5], [], [], []⟩
def lv81 : Nat → Option Norm := norms [(2, nm81_0)]
def en81 : End := ⟨[], ⟨[18], [], [], []⟩⟩
def dec81 (l : List TV) (o : List (Nat × TO)) : Option (Bool) := match l, o with | [.dv (.bool) x0], [] => some (x0) | _, _ => none
noncomputable def K81_0 (N : Nat) : Kont (Bool) := kont (E81) lv81 N c81 [1, 0, 1, 0] (fin TI en81 (resOf Try.f81) dec81)
noncomputable def R81_0 (N : Nat) (m : Nat) : TS → Option (Bool) := loopK (den (E81) lv81 N (sub c81 [1, 0, 1, 0, 0])) (TS.norm nm81_0) (K81_0 N) m
def Sl81a (pan0 : List Int) (stone1 : Int) (i5_a : Int) : TS := ⟨slots 18 [(0, .dv (.sl (.int .i64)) pan0), (1, .dv (.int .i64) stone1), (5, .dv (.int .i64) i5_a)], []⟩
def l81a (N : Nat) (pan0 : List Int) (stone1 : Int) : Nat → Int → Option (Bool)
  | 0, _ => none
  | n + 1, i5_a => cond (decide (i5_a < (pan0.length : Int))) (chk (decide (0 ≤ i5_a ∧ i5_a < (pan0.length : Int))) (cond ((pan0.getD i5_a.toNat (0 : Int)) == stone1) (some true)
      ((l81a N pan0 stone1 n (w64 (i5_a + (1 : Int)))))))
      (some false)
theorem wl81a (N : Nat) (pan0 : List Int) (stone1 : Int) (m : Nat) (i5_a : Int) : R81_0 N (m + 1) (Sl81a pan0 stone1 i5_a) = cond (decide (i5_a < (pan0.length : Int))) (chk (decide (0 ≤ i5_a ∧ i5_a < (pan0.length : Int))) (cond ((pan0.getD i5_a.toNat (0 : Int)) == stone1) (some true)
      ((R81_0 N m (Sl81a pan0 stone1 (w64 (i5_a + (1 : Int))))))))
      (some false) := by kernel_rfl
theorem ql81a (N : Nat) (pan0 : List Int) (stone1 : Int) : ∀ (m : Nat) (i5_a : Int), R81_0 N m (Sl81a pan0 stone1 i5_a) = l81a N pan0 stone1 m i5_a
        | 0, _ => rfl
        | m + 1, i5_a => by rw [wl81a]; simp only [l81a, ql81a N pan0 stone1 m]
def m81 (N : Nat) (pan0 : List Int) (stone1 : Int) : Option (Bool) :=
      (l81a N pan0 stone1 N (0 : Int))
theorem wm81 (N : Nat) (pan0 : List Int) (stone1 : Int) : callF (E81) lv81 N en81 c81 (resOf Try.f81) 16 [.dv (.sl (.int .i64)) pan0, .dv (.int .i64) stone1] [] dec81 = (R81_0 N N (Sl81a pan0 stone1 (0 : Int))) := by kernel_rfl
theorem k81 (N : Nat) (pan0 : List Int) (stone1 : Int) : callF (E81) lv81 N en81 c81 (resOf Try.f81) 16 [.dv (.sl (.int .i64)) pan0, .dv (.int .i64) stone1] [] dec81 = m81 N pan0 stone1 := by rw [wm81]; simp only [m81, ql81a]
theorem ok81 (a : (List Int) → Int → Option (Bool)) (h : ∀ pan0 stone1 r, a pan0 stone1 = some r → (∃ N, m81 N pan0 stone1 = some r)) : FnOk Try.prog 81 (F81 a) := by
  intro args Of x hx
  simp only [F81] at hx
  split at hx
  · rename_i pan0 stone1
    obtain ⟨N, hN⟩ := h _ _ _ hx
    refine lifted (L := []) (rc := nrc) (fz := nfz) (fn := Try.f81) (by kernel_rfl) (by kernel_rfl) (by kernel_rfl) (by kernel_rfl) rfl ?_ ((k81 N _ _).trans hN) ?_
    · intro p hp; cases hp
    · intro l o hd
      simp only [dec81] at hd
      split at hd
      · obtain rfl := Option.some.inj hd; exact ⟨rfl, rfl⟩
      · cases hd
  · cases hx
def E69 (a58 : Int → Int → Int → Option (Bool)) (a81 : (List Int) → Int → Option (Bool)) : Env := mkE TI TY [(58, F58 a58), (81, F81 a81)] nrc nfz
noncomputable def c69 : Code := bodyOf Try.f69
def nm69_0 : Norm := ⟨[0, 1, 2, 7], [], [], []⟩
def lv69 : Nat → Option Norm := norms [(2, nm69_0)]
def en69 : End := ⟨[], ⟨[42], [], [], []⟩⟩
def dec69 (l : List TV) (o : List (Nat × TO)) : Option (Int) := match l, o with | [.dv (.int .i64) x0], [] => some (x0) | _, _ => none
noncomputable def K69_0 (a58 : Int → Int → Int → Option (Bool)) (a81 : (List Int) → Int → Option (Bool)) (N : Nat) : Kont (Int) := kont (E69 a58 a81) lv69 N c69 [1, 0, 1, 0] (fin TI en69 (resOf Try.f69) dec69)
noncomputable def R69_0 (a58 : Int → Int → Int → Option (Bool)) (a81 : (List Int) → Int → Option (Bool)) (N : Nat) (m : Nat) : TS → Option (Int) := loopK (den (E69 a58 a81) lv69 N (sub c69 [1, 0, 1, 0, 0])) (TS.norm nm69_0) (K69_0 a58 a81 N) m
def Sl69a (stones0 : Int) (pan1 : List Int) (other2 : List Int) (i7_a : Int) : TS := ⟨slots 42 [(0, .dv (.int .i64) stones0), (1, .dv (.sl (.int .i64)) pan1), (2, .dv (.sl (.int .i64)) other2), (7, .dv (.int .i64) i7_a)], []⟩
def l69a (a58 : Int → Int → Int → Option (Bool)) (a81 : (List Int) → Int → Option (Bool)) (N : Nat) (stones0 : Int) (pan1 : List Int) (other2 : List Int) : Nat → Int → Option (Int)
  | 0, _ => none
  | n + 1, i7_a => cond (decide (i7_a < (pan1.length : Int))) (chk (decide (0 ≤ i7_a ∧ i7_a < (pan1.length : Int))) ((a58 (pan1.getD i7_a.toNat (0 : Int)) (0 : Int) (w64 (stones0 - (1 : Int)))).bind fun r1 =>
      cond (!r1) (some (5 : Int))
      (cond (decide (i7_a > (0 : Int))) (chk (decide (0 ≤ i7_a ∧ i7_a < (pan1.length : Int))) (chk (decide (0 ≤ w64 (i7_a - (1 : Int)) ∧ w64 (i7_a - (1 : Int)) < (pan1.length : Int))) (cond (decide ((pan1.getD i7_a.toNat (0 : Int)) ≤ (pan1.getD ((w64 (i7_a - (1 : Int))).toNat) (0 : Int)))) (some (7 : Int))
      (chk (decide (0 ≤ i7_a ∧ i7_a < (pan1.length : Int))) ((a81 other2 (pan1.getD i7_a.toNat (0 : Int))).bind fun r2 =>
      cond (r2) (some (6 : Int))
      ((l69a a58 a81 N stones0 pan1 other2 n (w64 (i7_a + (1 : Int))))))))))
      (chk (decide (0 ≤ i7_a ∧ i7_a < (pan1.length : Int))) ((a81 other2 (pan1.getD i7_a.toNat (0 : Int))).bind fun r3 =>
      cond (r3) (some (6 : Int))
      ((l69a a58 a81 N stones0 pan1 other2 n (w64 (i7_a + (1 : Int))))))))))
      (some (0 : Int))
theorem wl69a (a58 : Int → Int → Int → Option (Bool)) (a81 : (List Int) → Int → Option (Bool)) (N : Nat) (stones0 : Int) (pan1 : List Int) (other2 : List Int) (m : Nat) (i7_a : Int) : R69_0 a58 a81 N (m + 1) (Sl69a stones0 pan1 other2 i7_a) = cond (decide (i7_a < (pan1.length : Int))) (chk (decide (0 ≤ i7_a ∧ i7_a < (pan1.length : Int))) ((a58 (pan1.getD i7_a.toNat (0 : Int)) (0 : Int) (w64 (stones0 - (1 : Int)))).bind fun r1 =>
      cond (!r1) (some (5 : Int))
      (cond (decide (i7_a > (0 : Int))) (chk (decide (0 ≤ i7_a ∧ i7_a < (pan1.length : Int))) (chk (decide (0 ≤ w64 (i7_a - (1 : Int)) ∧ w64 (i7_a - (1 : Int)) < (pan1.length : Int))) (cond (decide ((pan1.getD i7_a.toNat (0 : Int)) ≤ (pan1.getD ((w64 (i7_a - (1 : Int))).toNat) (0 : Int)))) (some (7 : Int))
      (chk (decide (0 ≤ i7_a ∧ i7_a < (pan1.length : Int))) ((a81 other2 (pan1.getD i7_a.toNat (0 : Int))).bind fun r2 =>
      cond (r2) (some (6 : Int))
      ((R69_0 a58 a81 N m (Sl69a stones0 pan1 other2 (w64 (i7_a + (1 : Int)))))))))))
      (chk (decide (0 ≤ i7_a ∧ i7_a < (pan1.length : Int))) ((a81 other2 (pan1.getD i7_a.toNat (0 : Int))).bind fun r3 =>
      cond (r3) (some (6 : Int))
      ((R69_0 a58 a81 N m (Sl69a stones0 pan1 other2 (w64 (i7_a + (1 : Int)))))))))))
      (some (0 : Int)) := by kernel_rfl
theorem ql69a (a58 : Int → Int → Int → Option (Bool)) (a81 : (List Int) → Int → Option (Bool)) (N : Nat) (stones0 : Int) (pan1 : List Int) (other2 : List Int) : ∀ (m : Nat) (i7_a : Int), R69_0 a58 a81 N m (Sl69a stones0 pan1 other2 i7_a) = l69a a58 a81 N stones0 pan1 other2 m i7_a
        | 0, _ => rfl
        | m + 1, i7_a => by rw [wl69a]; simp only [l69a, ql69a a58 a81 N stones0 pan1 other2 m]
def m69 (a58 : Int → Int → Int → Option (Bool)) (a81 : (List Int) → Int → Option (Bool)) (N : Nat) (stones0 : Int) (pan1 : List Int) (other2 : List Int) : Option (Int) :=
      (l69a a58 a81 N stones0 pan1 other2 N (0 : Int))
theorem wm69 (a58 : Int → Int → Int → Option (Bool)) (a81 : (List Int) → Int → Option (Bool)) (N : Nat) (stones0 : Int) (pan1 : List Int) (other2 : List Int) : callF (E69 a58 a81) lv69 N en69 c69 (resOf Try.f69) 39 [.dv (.int .i64) stones0, .dv (.sl (.int .i64)) pan1, .dv (.sl (.int .i64)) other2] [] dec69 = (R69_0 a58 a81 N N (Sl69a stones0 pan1 other2 (0 : Int))) := by kernel_rfl
theorem k69 (a58 : Int → Int → Int → Option (Bool)) (a81 : (List Int) → Int → Option (Bool)) (N : Nat) (stones0 : Int) (pan1 : List Int) (other2 : List Int) : callF (E69 a58 a81) lv69 N en69 c69 (resOf Try.f69) 39 [.dv (.int .i64) stones0, .dv (.sl (.int .i64)) pan1, .dv (.sl (.int .i64)) other2] [] dec69 = m69 a58 a81 N stones0 pan1 other2 := by rw [wm69]; simp only [m69, ql69a]
theorem ok69 (a58 : Int → Int → Int → Option (Bool)) (a81 : (List Int) → Int → Option (Bool)) (h58 : FnOk Try.prog 58 (F58 a58)) (h81 : FnOk Try.prog 81 (F81 a81)) (a : Int → (List Int) → (List Int) → Option (Int)) (h : ∀ stones0 pan1 other2 r, a stones0 pan1 other2 = some r → (∃ N, m69 a58 a81 N stones0 pan1 other2 = some r)) : FnOk Try.prog 69 (F69 a) := by
  intro args Of x hx
  simp only [F69] at hx
  split at hx
  · rename_i stones0 pan1 other2
    obtain ⟨N, hN⟩ := h _ _ _ _ hx
    refine lifted (L := [(58, F58 a58), (81, F81 a81)]) (rc := nrc) (fz := nfz) (fn := Try.f69) (by kernel_rfl) (by kernel_rfl) (by kernel_rfl) (by kernel_rfl) rfl ?_ ((k69 a58 a81 N _ _ _).trans hN) ?_
    · intro p hp; simp only [List.mem_cons, List.not_mem_nil, or_false] at hp; rcases hp with rfl | rfl
      · exact h58
      · exact h81
    · intro l o hd
      simp only [dec69] at hd
      split at hd
      · obtain rfl := Option.some.inj hd; exact ⟨rfl, rfl⟩
      · cases hd
  · cases hx
def E36 (a58 : Int → Int → Int → Option (Bool)) (a69 : Int → (List Int) → (List Int) → Option (Int)) : Env := mkE TI TY [(58, F58 a58), (69, F69 a69)] nrc nfz
noncomputable def c36 : Code := bodyOf Try.f36
def nm36_0 : Norm := ⟨[0, 1, 5], [], [], []⟩
def lv36 : Nat → Option Norm := norms [(6, nm36_0)]
def en36 : End := ⟨[], ⟨[56], [], [], []⟩⟩
def dec36 (l : List TV) (o : List (Nat × TO)) : Option (Int) := match l, o with | [.dv (.int .i64) x0], [] => some (x0) | _, _ => none
noncomputable def K36_0 (a58 : Int → Int → Int → Option (Bool)) (a69 : Int → (List Int) → (List Int) → Option (Int)) (N : Nat) : Kont (Int) := kont (E36 a58 a69) lv36 N c36 [1, 1, 1, 0, 1, 0] (fin TI en36 (resOf Try.f36) dec36)
noncomputable def R36_0 (a58 : Int → Int → Int → Option (Bool)) (a69 : Int → (List Int) → (List Int) → Option (Int)) (N : Nat) (m : Nat) : TS → Option (Int) := loopK (den (E36 a58 a69) lv36 N (sub c36 [1, 1, 1, 0, 1, 0, 0])) (TS.norm nm36_0) (K36_0 a58 a69 N) m
def Sl36a (stones0 : Int) (plan1 : List (List Int × List Int × Unit)) (i5_a : Int) : TS := ⟨slots 56 [(0, .dv (.int .i64) stones0), (1, .dv (.sl (.pair (.sl (.int .i64)) (.pair (.sl (.int .i64)) (.unit)))) plan1), (5, .dv (.int .i64) i5_a)], []⟩
def l36a (a58 : Int → Int → Int → Option (Bool)) (a69 : Int → (List Int) → (List Int) → Option (Int)) (N : Nat) (stones0 : Int) (plan1 : List (List Int × List Int × Unit)) : Nat → Int → Option (Int)
  | 0, _ => none
  | n + 1, i5_a => cond (decide (i5_a < (plan1.length : Int))) (chk (decide (0 ≤ i5_a ∧ i5_a < (plan1.length : Int))) (cond ((((plan1.getD i5_a.toNat (([] : List Int), (([] : List Int), ()))).1).length : Int) == (0 : Int)) (some (1 : Int))
      (cond (((((plan1.getD i5_a.toNat (([] : List Int), (([] : List Int), ()))).2).1).length : Int) == (0 : Int)) (some (1 : Int))
      (cond ((((plan1.getD i5_a.toNat (([] : List Int), (([] : List Int), ()))).1).length : Int) != ((((plan1.getD i5_a.toNat (([] : List Int), (([] : List Int), ()))).2).1).length : Int)) (some (9 : Int))
      ((a69 stones0 ((plan1.getD i5_a.toNat (([] : List Int), (([] : List Int), ()))).1) ([] : List Int)).bind fun r2 =>
      cond (r2 == (0 : Int)) ((a69 stones0 (((plan1.getD i5_a.toNat (([] : List Int), (([] : List Int), ()))).2).1) ((plan1.getD i5_a.toNat (([] : List Int), (([] : List Int), ()))).1)).bind fun r3 =>
      cond (r3 != (0 : Int)) (some r3)
      ((l36a a58 a69 N stones0 plan1 n (w64 (i5_a + (1 : Int))))))
      (cond (r2 != (0 : Int)) (some r2)
      ((l36a a58 a69 N stones0 plan1 n (w64 (i5_a + (1 : Int)))))))))))
      (some (0 : Int))
theorem wl36a (a58 : Int → Int → Int → Option (Bool)) (a69 : Int → (List Int) → (List Int) → Option (Int)) (N : Nat) (stones0 : Int) (plan1 : List (List Int × List Int × Unit)) (m : Nat) (i5_a : Int) : R36_0 a58 a69 N (m + 1) (Sl36a stones0 plan1 i5_a) = cond (decide (i5_a < (plan1.length : Int))) (chk (decide (0 ≤ i5_a ∧ i5_a < (plan1.length : Int))) (cond ((((plan1.getD i5_a.toNat (([] : List Int), (([] : List Int), ()))).1).length : Int) == (0 : Int)) (some (1 : Int))
      (cond (((((plan1.getD i5_a.toNat (([] : List Int), (([] : List Int), ()))).2).1).length : Int) == (0 : Int)) (some (1 : Int))
      (cond ((((plan1.getD i5_a.toNat (([] : List Int), (([] : List Int), ()))).1).length : Int) != ((((plan1.getD i5_a.toNat (([] : List Int), (([] : List Int), ()))).2).1).length : Int)) (some (9 : Int))
      ((a69 stones0 ((plan1.getD i5_a.toNat (([] : List Int), (([] : List Int), ()))).1) ([] : List Int)).bind fun r2 =>
      cond (r2 == (0 : Int)) ((a69 stones0 (((plan1.getD i5_a.toNat (([] : List Int), (([] : List Int), ()))).2).1) ((plan1.getD i5_a.toNat (([] : List Int), (([] : List Int), ()))).1)).bind fun r3 =>
      cond (r3 != (0 : Int)) (some r3)
      ((R36_0 a58 a69 N m (Sl36a stones0 plan1 (w64 (i5_a + (1 : Int)))))))
      (cond (r2 != (0 : Int)) (some r2)
      ((R36_0 a58 a69 N m (Sl36a stones0 plan1 (w64 (i5_a + (1 : Int))))))))))))
      (some (0 : Int)) := by kernel_rfl
theorem ql36a (a58 : Int → Int → Int → Option (Bool)) (a69 : Int → (List Int) → (List Int) → Option (Int)) (N : Nat) (stones0 : Int) (plan1 : List (List Int × List Int × Unit)) : ∀ (m : Nat) (i5_a : Int), R36_0 a58 a69 N m (Sl36a stones0 plan1 i5_a) = l36a a58 a69 N stones0 plan1 m i5_a
        | 0, _ => rfl
        | m + 1, i5_a => by rw [wl36a]; simp only [l36a, ql36a a58 a69 N stones0 plan1 m]
def m36 (a58 : Int → Int → Int → Option (Bool)) (a69 : Int → (List Int) → (List Int) → Option (Int)) (N : Nat) (stones0 : Int) (plan1 : List (List Int × List Int × Unit)) : Option (Int) :=
      (a58 stones0 (1 : Int) (13 : Int)).bind fun r1 =>
      cond (!r1) (some (3 : Int))
      (cond (decide ((plan1.length : Int) > (3 : Int))) (some (2 : Int))
      ((l36a a58 a69 N stones0 plan1 N (0 : Int))))
theorem wm36 (a58 : Int → Int → Int → Option (Bool)) (a69 : Int → (List Int) → (List Int) → Option (Int)) (N : Nat) (stones0 : Int) (plan1 : List (List Int × List Int × Unit)) : callF (E36 a58 a69) lv36 N en36 c36 (resOf Try.f36) 54 [.dv (.int .i64) stones0, .dv (.sl (.pair (.sl (.int .i64)) (.pair (.sl (.int .i64)) (.unit)))) plan1] [] dec36 = (a58 stones0 (1 : Int) (13 : Int)).bind fun r1 =>
      cond (!r1) (some (3 : Int))
      (cond (decide ((plan1.length : Int) > (3 : Int))) (some (2 : Int))
      ((R36_0 a58 a69 N N (Sl36a stones0 plan1 (0 : Int))))) := by kernel_rfl
theorem k36 (a58 : Int → Int → Int → Option (Bool)) (a69 : Int → (List Int) → (List Int) → Option (Int)) (N : Nat) (stones0 : Int) (plan1 : List (List Int × List Int × Unit)) : callF (E36 a58 a69) lv36 N en36 c36 (resOf Try.f36) 54 [.dv (.int .i64) stones0, .dv (.sl (.pair (.sl (.int .i64)) (.pair (.sl (.int .i64)) (.unit)))) plan1] [] dec36 = m36 a58 a69 N stones0 plan1 := by rw [wm36]; simp only [m36, ql36a]
theorem ok36 (a58 : Int → Int → Int → Option (Bool)) (a69 : Int → (List Int) → (List Int) → Option (Int)) (h58 : FnOk Try.prog 58 (F58 a58)) (h69 : FnOk Try.prog 69 (F69 a69)) (a : Int → (List (List Int × List Int × Unit)) → Option (Int)) (h : ∀ stones0 plan1 r, a stones0 plan1 = some r → (∃ N, m36 a58 a69 N stones0 plan1 = some r)) : FnOk Try.prog 36 (F36 a) := by
  intro args Of x hx
  simp only [F36] at hx
  split at hx
  · rename_i stones0 plan1
    obtain ⟨N, hN⟩ := h _ _ _ hx
    refine lifted (L := [(58, F58 a58), (69, F69 a69)]) (rc := nrc) (fz := nfz) (fn := Try.f36) (by kernel_rfl) (by kernel_rfl) (by kernel_rfl) (by kernel_rfl) rfl ?_ ((k36 a58 a69 N _ _).trans hN) ?_
    · intro p hp; simp only [List.mem_cons, List.not_mem_nil, or_false] at hp; rcases hp with rfl | rfl
      · exact h58
      · exact h69
    · intro l o hd
      simp only [dec36] at hd
      split at hd
      · obtain rfl := Option.some.inj hd; exact ⟨rfl, rfl⟩
      · cases hd
  · cases hx
def E67 (a81 : (List Int) → Int → Option (Bool)) : Env := mkE TI TY [(81, F81 a81)] nrc nfz
noncomputable def c67 : Code := bodyOf Try.f67
def nm67_0 : Norm := ⟨[0, 1, 2, 8], [], [(.slot 7, 1007, .int .i64)], []⟩
def lv67 : Nat → Option Norm := norms [(3, nm67_0)]
def en67 : End := ⟨[(38, .sl (.int .i64))], ⟨[38], [], [], []⟩⟩
def dec67 (l : List TV) (o : List (Nat × TO)) : Option (List Int) := match l, o with | [.dv (.sl (.int .i64)) x0], [] => some (x0) | _, _ => none
noncomputable def K67_0 (a81 : (List Int) → Int → Option (Bool)) (N : Nat) : Kont (List Int) := kont (E67 a81) lv67 N c67 [1, 1, 0, 1, 0] (fin TI en67 (resOf Try.f67) dec67)
noncomputable def R67_0 (a81 : (List Int) → Int → Option (Bool)) (N : Nat) (m : Nat) : TS → Option (List Int) := loopK (den (E67 a81) lv67 N (sub c67 [1, 1, 0, 1, 0, 0])) (TS.norm nm67_0) (K67_0 a81 N) m
def Sl67a (plan0 : List (List Int × List Int × Unit)) (odd1 : Int) (way2 : Int) (i8_a : Int) (out7_a : List Int) : TS := ⟨slots 38 [(0, .dv (.sl (.pair (.sl (.int .i64)) (.pair (.sl (.int .i64)) (.unit)))) plan0), (1, .dv (.int .i64) odd1), (2, .dv (.int .i64) way2), (7, .row 1007), (8, .dv (.int .i64) i8_a)], [(1007, .row (.int .i64) out7_a)]⟩
def l67a (a81 : (List Int) → Int → Option (Bool)) (N : Nat) (plan0 : List (List Int × List Int × Unit)) (odd1 : Int) (way2 : Int) : Nat → Int → (List Int) → Option (List Int)
  | 0, _, _ => none
  | n + 1, i8_a, out7_a => cond (decide (i8_a < (plan0.length : Int))) (chk (decide (0 ≤ i8_a ∧ i8_a < (plan0.length : Int))) ((a81 ((plan0.getD i8_a.toNat (([] : List Int), (([] : List Int), ()))).1) odd1).bind fun r1 =>
      cond (r1) (chk (decide (0 ≤ i8_a ∧ i8_a < (plan0.length : Int))) ((a81 (((plan0.getD i8_a.toNat (([] : List Int), (([] : List Int), ()))).2).1) odd1).bind fun r2 =>
      cond (r2) (chk (small (out7_a.length + 1) 8) ((l67a a81 N plan0 odd1 way2 n (w64 (i8_a + (1 : Int))) (out7_a ++ ([way2] : List Int)))))
      (chk (small (out7_a.length + 1) 8) ((l67a a81 N plan0 odd1 way2 n (w64 (i8_a + (1 : Int))) (out7_a ++ ([w64 (0 - way2)] : List Int)))))))
      (chk (decide (0 ≤ i8_a ∧ i8_a < (plan0.length : Int))) ((a81 (((plan0.getD i8_a.toNat (([] : List Int), (([] : List Int), ()))).2).1) odd1).bind fun r3 =>
      cond (r3) (chk (small (out7_a.length + 1) 8) ((l67a a81 N plan0 odd1 way2 n (w64 (i8_a + (1 : Int))) (out7_a ++ ([way2] : List Int)))))
      (chk (small (out7_a.length + 1) 8) ((l67a a81 N plan0 odd1 way2 n (w64 (i8_a + (1 : Int))) (out7_a ++ ([(0 : Int)] : List Int)))))))))
      (some out7_a)
theorem wl67a (a81 : (List Int) → Int → Option (Bool)) (N : Nat) (plan0 : List (List Int × List Int × Unit)) (odd1 : Int) (way2 : Int) (m : Nat) (i8_a : Int) (out7_a : List Int) : R67_0 a81 N (m + 1) (Sl67a plan0 odd1 way2 i8_a out7_a) = cond (decide (i8_a < (plan0.length : Int))) (chk (decide (0 ≤ i8_a ∧ i8_a < (plan0.length : Int))) ((a81 ((plan0.getD i8_a.toNat (([] : List Int), (([] : List Int), ()))).1) odd1).bind fun r1 =>
      cond (r1) (chk (decide (0 ≤ i8_a ∧ i8_a < (plan0.length : Int))) ((a81 (((plan0.getD i8_a.toNat (([] : List Int), (([] : List Int), ()))).2).1) odd1).bind fun r2 =>
      cond (r2) (chk (small (out7_a.length + 1) 8) ((R67_0 a81 N m (Sl67a plan0 odd1 way2 (w64 (i8_a + (1 : Int))) (out7_a ++ ([way2] : List Int))))))
      (chk (small (out7_a.length + 1) 8) ((R67_0 a81 N m (Sl67a plan0 odd1 way2 (w64 (i8_a + (1 : Int))) (out7_a ++ ([w64 (0 - way2)] : List Int))))))))
      (chk (decide (0 ≤ i8_a ∧ i8_a < (plan0.length : Int))) ((a81 (((plan0.getD i8_a.toNat (([] : List Int), (([] : List Int), ()))).2).1) odd1).bind fun r3 =>
      cond (r3) (chk (small (out7_a.length + 1) 8) ((R67_0 a81 N m (Sl67a plan0 odd1 way2 (w64 (i8_a + (1 : Int))) (out7_a ++ ([way2] : List Int))))))
      (chk (small (out7_a.length + 1) 8) ((R67_0 a81 N m (Sl67a plan0 odd1 way2 (w64 (i8_a + (1 : Int))) (out7_a ++ ([(0 : Int)] : List Int))))))))))
      (some out7_a) := by kernel_rfl
theorem ql67a (a81 : (List Int) → Int → Option (Bool)) (N : Nat) (plan0 : List (List Int × List Int × Unit)) (odd1 : Int) (way2 : Int) : ∀ (m : Nat) (i8_a : Int) (out7_a : List Int), R67_0 a81 N m (Sl67a plan0 odd1 way2 i8_a out7_a) = l67a a81 N plan0 odd1 way2 m i8_a out7_a
        | 0, _, _ => rfl
        | m + 1, i8_a, out7_a => by rw [wl67a]; simp only [l67a, ql67a a81 N plan0 odd1 way2 m]
def m67 (a81 : (List Int) → Int → Option (Bool)) (N : Nat) (plan0 : List (List Int × List Int × Unit)) (odd1 : Int) (way2 : Int) : Option (List Int) :=
      (l67a a81 N plan0 odd1 way2 N (0 : Int) ([] : List Int))
theorem wm67 (a81 : (List Int) → Int → Option (Bool)) (N : Nat) (plan0 : List (List Int × List Int × Unit)) (odd1 : Int) (way2 : Int) : callF (E67 a81) lv67 N en67 c67 (resOf Try.f67) 35 [.dv (.sl (.pair (.sl (.int .i64)) (.pair (.sl (.int .i64)) (.unit)))) plan0, .dv (.int .i64) odd1, .dv (.int .i64) way2] [] dec67 = (R67_0 a81 N N (Sl67a plan0 odd1 way2 (0 : Int) ([] : List Int))) := by kernel_rfl
theorem k67 (a81 : (List Int) → Int → Option (Bool)) (N : Nat) (plan0 : List (List Int × List Int × Unit)) (odd1 : Int) (way2 : Int) : callF (E67 a81) lv67 N en67 c67 (resOf Try.f67) 35 [.dv (.sl (.pair (.sl (.int .i64)) (.pair (.sl (.int .i64)) (.unit)))) plan0, .dv (.int .i64) odd1, .dv (.int .i64) way2] [] dec67 = m67 a81 N plan0 odd1 way2 := by rw [wm67]; simp only [m67, ql67a]
theorem ok67 (a81 : (List Int) → Int → Option (Bool)) (h81 : FnOk Try.prog 81 (F81 a81)) (a : (List (List Int × List Int × Unit)) → Int → Int → Option (List Int)) (h : ∀ plan0 odd1 way2 r, a plan0 odd1 way2 = some r → (∃ N, m67 a81 N plan0 odd1 way2 = some r)) : FnOk Try.prog 67 (F67 a) := by
  intro args Of x hx
  simp only [F67] at hx
  split at hx
  · rename_i plan0 odd1 way2
    obtain ⟨N, hN⟩ := h _ _ _ _ hx
    refine lifted (L := [(81, F81 a81)]) (rc := nrc) (fz := nfz) (fn := Try.f67) (by kernel_rfl) (by kernel_rfl) (by kernel_rfl) (by kernel_rfl) rfl ?_ ((k67 a81 N _ _ _).trans hN) ?_
    · intro p hp; simp only [List.mem_cons, List.not_mem_nil, or_false] at hp; rcases hp with rfl; exact h81
    · intro l o hd
      simp only [dec67] at hd
      split at hd
      · obtain rfl := Option.some.inj hd; exact ⟨rfl, rfl⟩
      · cases hd
  · cases hx
def E34 (a36 : Int → (List (List Int × List Int × Unit)) → Option (Int)) (a58 : Int → Int → Int → Option (Bool)) (a67 : (List (List Int × List Int × Unit)) → Int → Int → Option (List Int)) : Env := mkE TI TY [(36, F36 a36), (58, F58 a58), (67, F67 a67)] nrc nfz
noncomputable def c34 : Code := bodyOf Try.f34
def lv34 : Nat → Option Norm := norms []
def en34 : End := ⟨[(37, .sl (.int .i64))], ⟨[37, 38], [], [], []⟩⟩
def dec34 (l : List TV) (o : List (Nat × TO)) : Option (List Int × Int) := match l, o with | [.dv (.sl (.int .i64)) x0, .dv (.int .i64) x1], [] => some (x0, x1) | _, _ => none
def m34 (a36 : Int → (List (List Int × List Int × Unit)) → Option (Int)) (a58 : Int → Int → Int → Option (Bool)) (a67 : (List (List Int × List Int × Unit)) → Int → Int → Option (List Int)) (N : Nat) (stones0 : Int) (plan1 : List (List Int × List Int × Unit)) (odd2 : Int) (way3 : Int) : Option (List Int × Int) :=
      (a36 stones0 plan1).bind fun r1 =>
      cond (r1 == (0 : Int)) ((a58 odd2 (0 : Int) (w64 (stones0 - (1 : Int)))).bind fun r2 =>
      cond (!r2) (some (([] : List Int), (5 : Int)))
      (cond (r1 == (0 : Int)) ((a58 way3 (-1 : Int) (1 : Int)).bind fun r3 =>
      cond (!r3) (some (([] : List Int), (3 : Int)))
      (cond (r1 != (0 : Int)) (some (([] : List Int), r1))
      ((a67 plan1 odd2 way3).bind fun r4 =>
      some (r4, (0 : Int)))))
      (cond (r1 != (0 : Int)) (some (([] : List Int), r1))
      ((a67 plan1 odd2 way3).bind fun r5 =>
      some (r5, (0 : Int))))))
      (cond (r1 == (0 : Int)) ((a58 way3 (-1 : Int) (1 : Int)).bind fun r6 =>
      cond (!r6) (some (([] : List Int), (3 : Int)))
      (cond (r1 != (0 : Int)) (some (([] : List Int), r1))
      ((a67 plan1 odd2 way3).bind fun r7 =>
      some (r7, (0 : Int)))))
      (cond (r1 != (0 : Int)) (some (([] : List Int), r1))
      ((a67 plan1 odd2 way3).bind fun r8 =>
      some (r8, (0 : Int)))))
theorem k34 (a36 : Int → (List (List Int × List Int × Unit)) → Option (Int)) (a58 : Int → Int → Int → Option (Bool)) (a67 : (List (List Int × List Int × Unit)) → Int → Int → Option (List Int)) (N : Nat) (stones0 : Int) (plan1 : List (List Int × List Int × Unit)) (odd2 : Int) (way3 : Int) : callF (E34 a36 a58 a67) lv34 N en34 c34 (resOf Try.f34) 33 [.dv (.int .i64) stones0, .dv (.sl (.pair (.sl (.int .i64)) (.pair (.sl (.int .i64)) (.unit)))) plan1, .dv (.int .i64) odd2, .dv (.int .i64) way3] [] dec34 = m34 a36 a58 a67 N stones0 plan1 odd2 way3 := by kernel_rfl
theorem ok34 (a36 : Int → (List (List Int × List Int × Unit)) → Option (Int)) (a58 : Int → Int → Int → Option (Bool)) (a67 : (List (List Int × List Int × Unit)) → Int → Int → Option (List Int)) (h36 : FnOk Try.prog 36 (F36 a36)) (h58 : FnOk Try.prog 58 (F58 a58)) (h67 : FnOk Try.prog 67 (F67 a67)) (a : Int → (List (List Int × List Int × Unit)) → Int → Int → Option (List Int × Int)) (h : ∀ stones0 plan1 odd2 way3 r, a stones0 plan1 odd2 way3 = some r → (∃ N, m34 a36 a58 a67 N stones0 plan1 odd2 way3 = some r)) : FnOk Try.prog 34 (F34 a) := by
  intro args Of x hx
  simp only [F34] at hx
  split at hx
  · rename_i stones0 plan1 odd2 way3
    obtain ⟨N, hN⟩ := h _ _ _ _ _ hx
    refine lifted (L := [(36, F36 a36), (58, F58 a58), (67, F67 a67)]) (rc := nrc) (fz := nfz) (fn := Try.f34) (by kernel_rfl) (by kernel_rfl) (by kernel_rfl) (by kernel_rfl) rfl ?_ ((k34 a36 a58 a67 N _ _ _ _).trans hN) ?_
    · intro p hp; simp only [List.mem_cons, List.not_mem_nil, or_false] at hp; rcases hp with rfl | rfl | rfl
      · exact h36
      · exact h58
      · exact h67
    · intro l o hd
      simp only [dec34] at hd
      split at hd
      · obtain rfl := Option.some.inj hd; exact ⟨rfl, rfl⟩
      · cases hd
  · cases hx
def E5 (a16 : Option (Bool)) (a21 : (List Int) → (List Int) → Option (Bool)) (a31 : (List (List Int × List Int × Unit)) → Option (Bool)) (a32 : (List (List Int × List Int × Unit)) → Option (List (List Int × List Int × Unit))) (a33 : Int → (List (List Int × List Int × Unit)) → Int → Int → Option (List Int × Int)) (a34 : Int → (List (List Int × List Int × Unit)) → Int → Int → Option (List Int × Int)) (a35 : Int → (List (List Int × List Int × Unit)) → Option (Int)) (a36 : Int → (List (List Int × List Int × Unit)) → Option (Int)) : Env := mkE TI TY [(16, F16 a16), (21, F21 a21), (31, F31 a31), (32, F32 a32), (33, F33 a33), (34, F34 a34), (35, F35 a35), (36, F36 a36)] nrc nfz
noncomputable def c5 : Code := bodyOf Try.f5
def lv5 : Nat → Option Norm := norms []
def en5 : End := ⟨[], ⟨[55], [], [], []⟩⟩
def dec5 (l : List TV) (o : List (Nat × TO)) : Option (Bool) := match l, o with | [.dv (.bool) x0], [] => some (x0) | _, _ => none
def m5 (a16 : Option (Bool)) (a21 : (List Int) → (List Int) → Option (Bool)) (a31 : (List (List Int × List Int × Unit)) → Option (Bool)) (a32 : (List (List Int × List Int × Unit)) → Option (List (List Int × List Int × Unit))) (a33 : Int → (List (List Int × List Int × Unit)) → Int → Int → Option (List Int × Int)) (a34 : Int → (List (List Int × List Int × Unit)) → Int → Int → Option (List Int × Int)) (a35 : Int → (List (List Int × List Int × Unit)) → Option (Int)) (a36 : Int → (List (List Int × List Int × Unit)) → Option (Int)) (N : Nat) (stones0 : Int) (plan1 : List (List Int × List Int × Unit)) (odd2 : Int) (way3 : Int) : Option (Bool) :=
      (a31 plan1).bind fun r1 =>
      cond (r1) ((a16).bind fun r2 =>
      some r2)
      ((a32 plan1).bind fun r3 =>
      (a33 stones0 plan1 odd2 way3).bind fun r4 =>
      (a34 stones0 r3 odd2 way3).bind fun r5 =>
      (a21 r4.1 r5.1).bind fun r6 =>
      cond (r6) (cond (r4.2 == r5.2) ((a35 stones0 plan1).bind fun r7 =>
      (a36 stones0 r3).bind fun r8 =>
      cond (r7 == r8) ((a16).bind fun r9 =>
      some r9)
      (some false))
      (some false))
      (some false))
theorem k5 (a16 : Option (Bool)) (a21 : (List Int) → (List Int) → Option (Bool)) (a31 : (List (List Int × List Int × Unit)) → Option (Bool)) (a32 : (List (List Int × List Int × Unit)) → Option (List (List Int × List Int × Unit))) (a33 : Int → (List (List Int × List Int × Unit)) → Int → Int → Option (List Int × Int)) (a34 : Int → (List (List Int × List Int × Unit)) → Int → Int → Option (List Int × Int)) (a35 : Int → (List (List Int × List Int × Unit)) → Option (Int)) (a36 : Int → (List (List Int × List Int × Unit)) → Option (Int)) (N : Nat) (stones0 : Int) (plan1 : List (List Int × List Int × Unit)) (odd2 : Int) (way3 : Int) : callF (E5 a16 a21 a31 a32 a33 a34 a35 a36) lv5 N en5 c5 (resOf Try.f5) 51 [.dv (.int .i64) stones0, .dv (.sl (.pair (.sl (.int .i64)) (.pair (.sl (.int .i64)) (.unit)))) plan1, .dv (.int .i64) odd2, .dv (.int .i64) way3] [] dec5 = m5 a16 a21 a31 a32 a33 a34 a35 a36 N stones0 plan1 odd2 way3 := by kernel_rfl
theorem ok5 (a16 : Option (Bool)) (a21 : (List Int) → (List Int) → Option (Bool)) (a31 : (List (List Int × List Int × Unit)) → Option (Bool)) (a32 : (List (List Int × List Int × Unit)) → Option (List (List Int × List Int × Unit))) (a33 : Int → (List (List Int × List Int × Unit)) → Int → Int → Option (List Int × Int)) (a34 : Int → (List (List Int × List Int × Unit)) → Int → Int → Option (List Int × Int)) (a35 : Int → (List (List Int × List Int × Unit)) → Option (Int)) (a36 : Int → (List (List Int × List Int × Unit)) → Option (Int)) (h16 : FnOk Try.prog 16 (F16 a16)) (h21 : FnOk Try.prog 21 (F21 a21)) (h31 : FnOk Try.prog 31 (F31 a31)) (h32 : FnOk Try.prog 32 (F32 a32)) (h33 : FnOk Try.prog 33 (F33 a33)) (h34 : FnOk Try.prog 34 (F34 a34)) (h35 : FnOk Try.prog 35 (F35 a35)) (h36 : FnOk Try.prog 36 (F36 a36)) (a : Int → (List (List Int × List Int × Unit)) → Int → Int → Option (Bool)) (h : ∀ stones0 plan1 odd2 way3 r, a stones0 plan1 odd2 way3 = some r → (∃ N, m5 a16 a21 a31 a32 a33 a34 a35 a36 N stones0 plan1 odd2 way3 = some r)) : FnOk Try.prog 5 (F5 a) := by
  intro args Of x hx
  simp only [F5] at hx
  split at hx
  · rename_i stones0 plan1 odd2 way3
    obtain ⟨N, hN⟩ := h _ _ _ _ _ hx
    refine lifted (L := [(16, F16 a16), (21, F21 a21), (31, F31 a31), (32, F32 a32), (33, F33 a33), (34, F34 a34), (35, F35 a35), (36, F36 a36)]) (rc := nrc) (fz := nfz) (fn := Try.f5) (by kernel_rfl) (by kernel_rfl) (by kernel_rfl) (by kernel_rfl) rfl ?_ ((k5 a16 a21 a31 a32 a33 a34 a35 a36 N _ _ _ _).trans hN) ?_
    · intro p hp; simp only [List.mem_cons, List.not_mem_nil, or_false] at hp; rcases hp with rfl | rfl | rfl | rfl | rfl | rfl | rfl | rfl
      · exact h16
      · exact h21
      · exact h31
      · exact h32
      · exact h33
      · exact h34
      · exact h35
      · exact h36
    · intro l o hd
      simp only [dec5] at hd
      split at hd
      · obtain rfl := Option.some.inj hd; exact ⟨rfl, rfl⟩
      · cases hd
  · cases hx
def E72 : Env := mkE TI TY [] nrc nfz
noncomputable def c72 : Code := bodyOf Try.f72
def nm72_0 : Norm := ⟨[0, 4], [], [(.slot 3, 1003, .arr 2 (.int .i64))], []⟩
def lv72 : Nat → Option Norm := norms [(3, nm72_0)]
def en72 : End := ⟨[(20, .sl (.arr 2 (.int .i64)))], ⟨[20], [], [], []⟩⟩
def dec72 (l : List TV) (o : List (Nat × TO)) : Option (List (List Int)) := match l, o with | [.dv (.sl (.arr 2 (.int .i64))) x0], [] => some (x0) | _, _ => none
noncomputable def K72_0 (N : Nat) : Kont (List (List Int)) := kont (E72) lv72 N c72 [1, 1, 0, 1, 0] (fin TI en72 (resOf Try.f72) dec72)
noncomputable def R72_0 (N : Nat) (m : Nat) : TS → Option (List (List Int)) := loopK (den (E72) lv72 N (sub c72 [1, 1, 0, 1, 0, 0])) (TS.norm nm72_0) (K72_0 N) m
def Sl72a (stones0 : Int) (i4_a : Int) (out3_a : List (List Int)) : TS := ⟨slots 20 [(0, .dv (.int .i64) stones0), (3, .row 1003), (4, .dv (.int .i64) i4_a)], [(1003, .row (.arr 2 (.int .i64)) out3_a)]⟩
def l72a (N : Nat) (stones0 : Int) : Nat → Int → (List (List Int)) → Option (List (List Int))
  | 0, _, _ => none
  | n + 1, i4_a, out3_a => cond (decide (i4_a < stones0)) (chk (small (out3_a.length + 2) 16) ((l72a N stones0 n (w64 (i4_a + (1 : Int))) (out3_a ++ ([([i4_a, (1 : Int)] : List Int), ([i4_a, (-1 : Int)] : List Int)] : List (List Int))))))
      (some out3_a)
theorem wl72a (N : Nat) (stones0 : Int) (m : Nat) (i4_a : Int) (out3_a : List (List Int)) : R72_0 N (m + 1) (Sl72a stones0 i4_a out3_a) = cond (decide (i4_a < stones0)) (chk (small (out3_a.length + 2) 16) ((R72_0 N m (Sl72a stones0 (w64 (i4_a + (1 : Int))) (out3_a ++ ([([i4_a, (1 : Int)] : List Int), ([i4_a, (-1 : Int)] : List Int)] : List (List Int)))))))
      (some out3_a) := by kernel_rfl
theorem ql72a (N : Nat) (stones0 : Int) : ∀ (m : Nat) (i4_a : Int) (out3_a : List (List Int)), R72_0 N m (Sl72a stones0 i4_a out3_a) = l72a N stones0 m i4_a out3_a
        | 0, _, _ => rfl
        | m + 1, i4_a, out3_a => by rw [wl72a]; simp only [l72a, ql72a N stones0 m]
def m72 (N : Nat) (stones0 : Int) : Option (List (List Int)) :=
      (l72a N stones0 N (0 : Int) ([([(0 : Int), (0 : Int)] : List Int)] : List (List Int)))
theorem wm72 (N : Nat) (stones0 : Int) : callF (E72) lv72 N en72 c72 (resOf Try.f72) 19 [.dv (.int .i64) stones0] [] dec72 = (R72_0 N N (Sl72a stones0 (0 : Int) ([([(0 : Int), (0 : Int)] : List Int)] : List (List Int)))) := by kernel_rfl
theorem k72 (N : Nat) (stones0 : Int) : callF (E72) lv72 N en72 c72 (resOf Try.f72) 19 [.dv (.int .i64) stones0] [] dec72 = m72 N stones0 := by rw [wm72]; simp only [m72, ql72a]
theorem ok72 (a : Int → Option (List (List Int))) (h : ∀ stones0 r, a stones0 = some r → (∃ N, m72 N stones0 = some r)) : FnOk Try.prog 72 (F72 a) := by
  intro args Of x hx
  simp only [F72] at hx
  split at hx
  · rename_i stones0
    obtain ⟨N, hN⟩ := h _ _ hx
    refine lifted (L := []) (rc := nrc) (fz := nfz) (fn := Try.f72) (by kernel_rfl) (by kernel_rfl) (by kernel_rfl) (by kernel_rfl) rfl ?_ ((k72 N _).trans hN) ?_
    · intro p hp; cases hp
    · intro l o hd
      simp only [dec72] at hd
      split at hd
      · obtain rfl := Option.some.inj hd; exact ⟨rfl, rfl⟩
      · cases hd
  · cases hx
def E73 : Env := mkE TI TY [] nrc nfz
noncomputable def c73 : Code := bodyOf Try.f73
def nm73_0 : Norm := ⟨[0, 1, 5], [], [], []⟩
def lv73 : Nat → Option Norm := norms [(4, nm73_0)]
def en73 : End := ⟨[], ⟨[26], [], [], []⟩⟩
def dec73 (l : List TV) (o : List (Nat × TO)) : Option (Bool) := match l, o with | [.dv (.bool) x0], [] => some (x0) | _, _ => none
noncomputable def K73_0 (N : Nat) : Kont (Bool) := kont (E73) lv73 N c73 [1, 1, 0, 1, 0] (fin TI en73 (resOf Try.f73) dec73)
noncomputable def R73_0 (N : Nat) (m : Nat) : TS → Option (Bool) := loopK (den (E73) lv73 N (sub c73 [1, 1, 0, 1, 0, 0])) (TS.norm nm73_0) (K73_0 N) m
def Sl73a (a0 : List Int) (b1 : List Int) (i5_a : Int) : TS := ⟨slots 26 [(0, .dv (.sl (.int .i64)) a0), (1, .dv (.sl (.int .i64)) b1), (5, .dv (.int .i64) i5_a)], []⟩
def l73a (N : Nat) (a0 : List Int) (b1 : List Int) : Nat → Int → Option (Bool)
  | 0, _ => none
  | n + 1, i5_a => cond (decide (i5_a < (a0.length : Int))) (chk (decide (0 ≤ i5_a ∧ i5_a < (a0.length : Int))) (chk (decide (0 ≤ i5_a ∧ i5_a < (b1.length : Int))) (cond ((a0.getD i5_a.toNat (0 : Int)) != (b1.getD i5_a.toNat (0 : Int))) (some false)
      ((l73a N a0 b1 n (w64 (i5_a + (1 : Int))))))))
      (some true)
theorem wl73a (N : Nat) (a0 : List Int) (b1 : List Int) (m : Nat) (i5_a : Int) : R73_0 N (m + 1) (Sl73a a0 b1 i5_a) = cond (decide (i5_a < (a0.length : Int))) (chk (decide (0 ≤ i5_a ∧ i5_a < (a0.length : Int))) (chk (decide (0 ≤ i5_a ∧ i5_a < (b1.length : Int))) (cond ((a0.getD i5_a.toNat (0 : Int)) != (b1.getD i5_a.toNat (0 : Int))) (some false)
      ((R73_0 N m (Sl73a a0 b1 (w64 (i5_a + (1 : Int)))))))))
      (some true) := by kernel_rfl
theorem ql73a (N : Nat) (a0 : List Int) (b1 : List Int) : ∀ (m : Nat) (i5_a : Int), R73_0 N m (Sl73a a0 b1 i5_a) = l73a N a0 b1 m i5_a
        | 0, _ => rfl
        | m + 1, i5_a => by rw [wl73a]; simp only [l73a, ql73a N a0 b1 m]
def m73 (N : Nat) (a0 : List Int) (b1 : List Int) : Option (Bool) :=
      cond ((a0.length : Int) != (b1.length : Int)) (some false)
      ((l73a N a0 b1 N (0 : Int)))
theorem wm73 (N : Nat) (a0 : List Int) (b1 : List Int) : callF (E73) lv73 N en73 c73 (resOf Try.f73) 24 [.dv (.sl (.int .i64)) a0, .dv (.sl (.int .i64)) b1] [] dec73 = cond ((a0.length : Int) != (b1.length : Int)) (some false)
      ((R73_0 N N (Sl73a a0 b1 (0 : Int)))) := by kernel_rfl
theorem k73 (N : Nat) (a0 : List Int) (b1 : List Int) : callF (E73) lv73 N en73 c73 (resOf Try.f73) 24 [.dv (.sl (.int .i64)) a0, .dv (.sl (.int .i64)) b1] [] dec73 = m73 N a0 b1 := by rw [wm73]; simp only [m73, ql73a]
theorem ok73 (a : (List Int) → (List Int) → Option (Bool)) (h : ∀ a0 b1 r, a a0 b1 = some r → (∃ N, m73 N a0 b1 = some r)) : FnOk Try.prog 73 (F73 a) := by
  intro args Of x hx
  simp only [F73] at hx
  split at hx
  · rename_i a0 b1
    obtain ⟨N, hN⟩ := h _ _ _ hx
    refine lifted (L := []) (rc := nrc) (fz := nfz) (fn := Try.f73) (by kernel_rfl) (by kernel_rfl) (by kernel_rfl) (by kernel_rfl) rfl ?_ ((k73 N _ _).trans hN) ?_
    · intro p hp; cases hp
    · intro l o hd
      simp only [dec73] at hd
      split at hd
      · obtain rfl := Option.some.inj hd; exact ⟨rfl, rfl⟩
      · cases hd
  · cases hx
def E38 (a36 : Int → (List (List Int × List Int × Unit)) → Option (Int)) (a67 : (List (List Int × List Int × Unit)) → Int → Int → Option (List Int)) (a72 : Int → Option (List (List Int))) (a73 : (List Int) → (List Int) → Option (Bool)) : Env := mkE TI TY [(36, F36 a36), (67, F67 a67), (72, F72 a72), (73, F73 a73)] nrc nfz
noncomputable def c38 : Code := bodyOf Try.f38
def nm38_0 : Norm := ⟨[1, 4, 5, 8, 9], [4, 5], [], []⟩
def nm38_1 : Norm := ⟨[1, 4, 5, 8, 9, 10], [4, 5], [], []⟩
def lv38 : Nat → Option Norm := norms [(6, nm38_0), (9, nm38_1)]
def en38 : End := ⟨[(70, .arr 2 (.int .i64)), (71, .arr 2 (.int .i64))], ⟨[70, 71, 72], [], [], []⟩⟩
def dec38 (l : List TV) (o : List (Nat × TO)) : Option (List Int × List Int × Int) := match l, o with | [.dv (.arr 2 (.int .i64)) x0, .dv (.arr 2 (.int .i64)) x1, .dv (.int .i64) x2], [] => some (x0, x1, x2) | _, _ => none
noncomputable def K38_0 (a36 : Int → (List (List Int × List Int × Unit)) → Option (Int)) (a67 : (List (List Int × List Int × Unit)) → Int → Int → Option (List Int)) (a72 : Int → Option (List (List Int))) (a73 : (List Int) → (List Int) → Option (Bool)) (N : Nat) : Kont (List Int × List Int × Int) := kont (E38 a36 a67 a72 a73) lv38 N c38 [1, 1, 1, 1, 0, 1, 0] (fin TI en38 (resOf Try.f38) dec38)
noncomputable def R38_0 (a36 : Int → (List (List Int × List Int × Unit)) → Option (Int)) (a67 : (List (List Int × List Int × Unit)) → Int → Int → Option (List Int)) (a72 : Int → Option (List (List Int))) (a73 : (List Int) → (List Int) → Option (Bool)) (N : Nat) (m : Nat) : TS → Option (List Int × List Int × Int) := loopK (den (E38 a36 a67 a72 a73) lv38 N (sub c38 [1, 1, 1, 1, 0, 1, 0, 0])) (TS.norm nm38_0) (K38_0 a36 a67 a72 a73 N) m
noncomputable def K38_1 (a36 : Int → (List (List Int × List Int × Unit)) → Option (Int)) (a67 : (List (List Int × List Int × Unit)) → Int → Int → Option (List Int)) (a72 : Int → Option (List (List Int))) (a73 : (List Int) → (List Int) → Option (Bool)) (N : Nat) (T38_0 : TS → Option (List Int × List Int × Int)) : Kont (List Int × List Int × Int) := kont (E38 a36 a67 a72 a73) lv38 N (sub c38 [1, 1, 1, 1, 0, 1, 0, 0]) [1, 0, 0, 1, 0] (kloop (TS.norm nm38_0) (K38_0 a36 a67 a72 a73 N) T38_0)
noncomputable def R38_1 (a36 : Int → (List (List Int × List Int × Unit)) → Option (Int)) (a67 : (List (List Int × List Int × Unit)) → Int → Int → Option (List Int)) (a72 : Int → Option (List (List Int))) (a73 : (List Int) → (List Int) → Option (Bool)) (N : Nat) (T38_0 : TS → Option (List Int × List Int × Int)) (m : Nat) : TS → Option (List Int × List Int × Int) := loopK (den (E38 a36 a67 a72 a73) lv38 N (sub c38 [1, 1, 1, 1, 0, 1, 0, 0, 1, 0, 0, 1, 0, 0])) (TS.norm nm38_1) (K38_1 a36 a67 a72 a73 N T38_0) m
def Sl38b (plan1 : List (List Int × List Int × Unit)) (r2 : List (List Int)) (i9_a : Int) (k10_b : Int) : TS := ⟨slots 70 [(1, .dv (.sl (.pair (.sl (.int .i64)) (.pair (.sl (.int .i64)) (.unit)))) plan1), (4, .ptr 4 0 []), (5, .ptr 5 0 []), (8, .dv (.sl (.arr 2 (.int .i64))) r2), (9, .dv (.int .i64) i9_a), (10, .dv (.int .i64) k10_b)], [(4, .row (.arr 2 (.int .i64)) ([([(0 : Int), (0 : Int)] : List Int)] : List (List Int))), (5, .row (.arr 2 (.int .i64)) ([([(0 : Int), (0 : Int)] : List Int)] : List (List Int)))]⟩
def Sl38a (plan1 : List (List Int × List Int × Unit)) (r2 : List (List Int)) (i9_a : Int) : TS := ⟨slots 70 [(1, .dv (.sl (.pair (.sl (.int .i64)) (.pair (.sl (.int .i64)) (.unit)))) plan1), (4, .ptr 4 0 []), (5, .ptr 5 0 []), (8, .dv (.sl (.arr 2 (.int .i64))) r2), (9, .dv (.int .i64) i9_a)], [(4, .row (.arr 2 (.int .i64)) ([([(0 : Int), (0 : Int)] : List Int)] : List (List Int))), (5, .row (.arr 2 (.int .i64)) ([([(0 : Int), (0 : Int)] : List Int)] : List (List Int)))]⟩
def l38b (a36 : Int → (List (List Int × List Int × Unit)) → Option (Int)) (a67 : (List (List Int × List Int × Unit)) → Int → Int → Option (List Int)) (a72 : Int → Option (List (List Int))) (a73 : (List Int) → (List Int) → Option (Bool)) (N : Nat) (plan1 : List (List Int × List Int × Unit)) (r2 : List (List Int)) (i9_a : Int) (rec_l38a : Int → Option (List Int × List Int × Int)) : Nat → Int → Option (List Int × List Int × Int)
  | 0, _ => none
  | n + 1, k10_b => cond (decide (k10_b < (r2.length : Int))) (chk (decide (0 ≤ i9_a ∧ i9_a < (r2.length : Int))) (chk (decide (0 ≤ i9_a ∧ i9_a < (r2.length : Int))) ((a67 plan1 ((r2.getD i9_a.toNat ([(0 : Int), (0 : Int)] : List Int)).getD 0 (0 : Int)) ((r2.getD i9_a.toNat ([(0 : Int), (0 : Int)] : List Int)).getD 1 (0 : Int))).bind fun r3 =>
      chk (decide (0 ≤ k10_b ∧ k10_b < (r2.length : Int))) (chk (decide (0 ≤ k10_b ∧ k10_b < (r2.length : Int))) ((a67 plan1 ((r2.getD k10_b.toNat ([(0 : Int), (0 : Int)] : List Int)).getD 0 (0 : Int)) ((r2.getD k10_b.toNat ([(0 : Int), (0 : Int)] : List Int)).getD 1 (0 : Int))).bind fun r4 =>
      (a73 r3 r4).bind fun r5 =>
      cond (r5) (chk (decide (0 ≤ i9_a ∧ i9_a < (r2.length : Int))) (chk (decide (0 ≤ k10_b ∧ k10_b < (r2.length : Int))) (some (r2.getD i9_a.toNat ([(0 : Int), (0 : Int)] : List Int), r2.getD k10_b.toNat ([(0 : Int), (0 : Int)] : List Int), (0 : Int)))))
      ((l38b a36 a67 a72 a73 N plan1 r2 i9_a rec_l38a n (w64 (k10_b + (1 : Int))))))))))
      ((rec_l38a (w64 (i9_a + (1 : Int)))))
theorem wl38b (a36 : Int → (List (List Int × List Int × Unit)) → Option (Int)) (a67 : (List (List Int × List Int × Unit)) → Int → Int → Option (List Int)) (a72 : Int → Option (List (List Int))) (a73 : (List Int) → (List Int) → Option (Bool)) (N : Nat) (plan1 : List (List Int × List Int × Unit)) (r2 : List (List Int)) (i9_a : Int) (T38_0 : TS → Option (List Int × List Int × Int)) (m : Nat) (k10_b : Int) : R38_1 a36 a67 a72 a73 N T38_0 (m + 1) (Sl38b plan1 r2 i9_a k10_b) = cond (decide (k10_b < (r2.length : Int))) (chk (decide (0 ≤ i9_a ∧ i9_a < (r2.length : Int))) (chk (decide (0 ≤ i9_a ∧ i9_a < (r2.length : Int))) ((a67 plan1 ((r2.getD i9_a.toNat ([(0 : Int), (0 : Int)] : List Int)).getD 0 (0 : Int)) ((r2.getD i9_a.toNat ([(0 : Int), (0 : Int)] : List Int)).getD 1 (0 : Int))).bind fun r3 =>
      chk (decide (0 ≤ k10_b ∧ k10_b < (r2.length : Int))) (chk (decide (0 ≤ k10_b ∧ k10_b < (r2.length : Int))) ((a67 plan1 ((r2.getD k10_b.toNat ([(0 : Int), (0 : Int)] : List Int)).getD 0 (0 : Int)) ((r2.getD k10_b.toNat ([(0 : Int), (0 : Int)] : List Int)).getD 1 (0 : Int))).bind fun r4 =>
      (a73 r3 r4).bind fun r5 =>
      cond (r5) (chk (decide (0 ≤ i9_a ∧ i9_a < (r2.length : Int))) (chk (decide (0 ≤ k10_b ∧ k10_b < (r2.length : Int))) (some (r2.getD i9_a.toNat ([(0 : Int), (0 : Int)] : List Int), r2.getD k10_b.toNat ([(0 : Int), (0 : Int)] : List Int), (0 : Int)))))
      ((R38_1 a36 a67 a72 a73 N T38_0 m (Sl38b plan1 r2 i9_a (w64 (k10_b + (1 : Int)))))))))))
      ((T38_0 (Sl38a plan1 r2 (w64 (i9_a + (1 : Int)))))) := by kernel_rfl
theorem ql38b (a36 : Int → (List (List Int × List Int × Unit)) → Option (Int)) (a67 : (List (List Int × List Int × Unit)) → Int → Int → Option (List Int)) (a72 : Int → Option (List (List Int))) (a73 : (List Int) → (List Int) → Option (Bool)) (N : Nat) (plan1 : List (List Int × List Int × Unit)) (r2 : List (List Int)) (i9_a : Int) (T38_0 : TS → Option (List Int × List Int × Int)) : ∀ (m : Nat) (k10_b : Int), R38_1 a36 a67 a72 a73 N T38_0 m (Sl38b plan1 r2 i9_a k10_b) = l38b a36 a67 a72 a73 N plan1 r2 i9_a (fun y0 => T38_0 (Sl38a plan1 r2 y0)) m k10_b
        | 0, _ => rfl
        | m + 1, k10_b => by rw [wl38b]; simp only [l38b, ql38b a36 a67 a72 a73 N plan1 r2 i9_a T38_0 m]
def l38a (a36 : Int → (List (List Int × List Int × Unit)) → Option (Int)) (a67 : (List (List Int × List Int × Unit)) → Int → Int → Option (List Int)) (a72 : Int → Option (List (List Int))) (a73 : (List Int) → (List Int) → Option (Bool)) (N : Nat) (plan1 : List (List Int × List Int × Unit)) (r2 : List (List Int)) : Nat → Int → Option (List Int × List Int × Int)
  | 0, _ => none
  | n + 1, i9_a => cond (decide (i9_a < (r2.length : Int))) ((l38b a36 a67 a72 a73 N plan1 r2 i9_a (fun y0 => (l38a a36 a67 a72 a73 N plan1 r2 n y0)) N (w64 (i9_a + (1 : Int)))))
      (some (([(0 : Int), (0 : Int)] : List Int), ([(0 : Int), (0 : Int)] : List Int), (14 : Int)))
theorem wl38a (a36 : Int → (List (List Int × List Int × Unit)) → Option (Int)) (a67 : (List (List Int × List Int × Unit)) → Int → Int → Option (List Int)) (a72 : Int → Option (List (List Int))) (a73 : (List Int) → (List Int) → Option (Bool)) (N : Nat) (plan1 : List (List Int × List Int × Unit)) (r2 : List (List Int)) (m : Nat) (i9_a : Int) : R38_0 a36 a67 a72 a73 N (m + 1) (Sl38a plan1 r2 i9_a) = cond (decide (i9_a < (r2.length : Int))) ((R38_1 a36 a67 a72 a73 N (R38_0 a36 a67 a72 a73 N m) N (Sl38b plan1 r2 i9_a (w64 (i9_a + (1 : Int))))))
      (some (([(0 : Int), (0 : Int)] : List Int), ([(0 : Int), (0 : Int)] : List Int), (14 : Int))) := by kernel_rfl
theorem ql38a (a36 : Int → (List (List Int × List Int × Unit)) → Option (Int)) (a67 : (List (List Int × List Int × Unit)) → Int → Int → Option (List Int)) (a72 : Int → Option (List (List Int))) (a73 : (List Int) → (List Int) → Option (Bool)) (N : Nat) (plan1 : List (List Int × List Int × Unit)) (r2 : List (List Int)) : ∀ (m : Nat) (i9_a : Int), R38_0 a36 a67 a72 a73 N m (Sl38a plan1 r2 i9_a) = l38a a36 a67 a72 a73 N plan1 r2 m i9_a
        | 0, _ => rfl
        | m + 1, i9_a => by rw [wl38a]; simp only [l38a, ql38b, ql38a a36 a67 a72 a73 N plan1 r2 m]
def m38 (a36 : Int → (List (List Int × List Int × Unit)) → Option (Int)) (a67 : (List (List Int × List Int × Unit)) → Int → Int → Option (List Int)) (a72 : Int → Option (List (List Int))) (a73 : (List Int) → (List Int) → Option (Bool)) (N : Nat) (stones0 : Int) (plan1 : List (List Int × List Int × Unit)) : Option (List Int × List Int × Int) :=
      (a36 stones0 plan1).bind fun r1 =>
      cond (r1 != (0 : Int)) (some (([(0 : Int), (0 : Int)] : List Int), ([(0 : Int), (0 : Int)] : List Int), r1))
      ((a72 stones0).bind fun r2 =>
      (l38a a36 a67 a72 a73 N plan1 r2 N (0 : Int)))
theorem wm38 (a36 : Int → (List (List Int × List Int × Unit)) → Option (Int)) (a67 : (List (List Int × List Int × Unit)) → Int → Int → Option (List Int)) (a72 : Int → Option (List (List Int))) (a73 : (List Int) → (List Int) → Option (Bool)) (N : Nat) (stones0 : Int) (plan1 : List (List Int × List Int × Unit)) : callF (E38 a36 a67 a72 a73) lv38 N en38 c38 (resOf Try.f38) 68 [.dv (.int .i64) stones0, .dv (.sl (.pair (.sl (.int .i64)) (.pair (.sl (.int .i64)) (.unit)))) plan1] [] dec38 = (a36 stones0 plan1).bind fun r1 =>
      cond (r1 != (0 : Int)) (some (([(0 : Int), (0 : Int)] : List Int), ([(0 : Int), (0 : Int)] : List Int), r1))
      ((a72 stones0).bind fun r2 =>
      (R38_0 a36 a67 a72 a73 N N (Sl38a plan1 r2 (0 : Int)))) := by kernel_rfl
theorem k38 (a36 : Int → (List (List Int × List Int × Unit)) → Option (Int)) (a67 : (List (List Int × List Int × Unit)) → Int → Int → Option (List Int)) (a72 : Int → Option (List (List Int))) (a73 : (List Int) → (List Int) → Option (Bool)) (N : Nat) (stones0 : Int) (plan1 : List (List Int × List Int × Unit)) : callF (E38 a36 a67 a72 a73) lv38 N en38 c38 (resOf Try.f38) 68 [.dv (.int .i64) stones0, .dv (.sl (.pair (.sl (.int .i64)) (.pair (.sl (.int .i64)) (.unit)))) plan1] [] dec38 = m38 a36 a67 a72 a73 N stones0 plan1 := by rw [wm38]; simp only [m38, ql38a]
theorem ok38 (a36 : Int → (List (List Int × List Int × Unit)) → Option (Int)) (a67 : (List (List Int × List Int × Unit)) → Int → Int → Option (List Int)) (a72 : Int → Option (List (List Int))) (a73 : (List Int) → (List Int) → Option (Bool)) (h36 : FnOk Try.prog 36 (F36 a36)) (h67 : FnOk Try.prog 67 (F67 a67)) (h72 : FnOk Try.prog 72 (F72 a72)) (h73 : FnOk Try.prog 73 (F73 a73)) (a : Int → (List (List Int × List Int × Unit)) → Option (List Int × List Int × Int)) (h : ∀ stones0 plan1 r, a stones0 plan1 = some r → (∃ N, m38 a36 a67 a72 a73 N stones0 plan1 = some r)) : FnOk Try.prog 38 (F38 a) := by
  intro args Of x hx
  simp only [F38] at hx
  split at hx
  · rename_i stones0 plan1
    obtain ⟨N, hN⟩ := h _ _ _ hx
    refine lifted (L := [(36, F36 a36), (67, F67 a67), (72, F72 a72), (73, F73 a73)]) (rc := nrc) (fz := nfz) (fn := Try.f38) (by kernel_rfl) (by kernel_rfl) (by kernel_rfl) (by kernel_rfl) rfl ?_ ((k38 a36 a67 a72 a73 N _ _).trans hN) ?_
    · intro p hp; simp only [List.mem_cons, List.not_mem_nil, or_false] at hp; rcases hp with rfl | rfl | rfl | rfl
      · exact h36
      · exact h67
      · exact h72
      · exact h73
    · intro l o hd
      simp only [dec38] at hd
      split at hd
      · obtain rfl := Option.some.inj hd; exact ⟨rfl, rfl⟩
      · cases hd
  · cases hx
def E40 (a36 : Int → (List (List Int × List Int × Unit)) → Option (Int)) (a58 : Int → Int → Int → Option (Bool)) (a67 : (List (List Int × List Int × Unit)) → Int → Int → Option (List Int)) (a72 : Int → Option (List (List Int))) (a73 : (List Int) → (List Int) → Option (Bool)) : Env := mkE TI TY [(36, F36 a36), (58, F58 a58), (67, F67 a67), (72, F72 a72), (73, F73 a73)] nrc nfz
noncomputable def c40 : Code := bodyOf Try.f40
def nm40_0 : Norm := ⟨[0, 1, 2, 8, 9], [], [], []⟩
def nm40_1 : Norm := ⟨[1, 2, 10, 12], [], [(.slot 11, 1011, .arr 2 (.int .i64))], []⟩
def lv40 : Nat → Option Norm := norms [(5, nm40_0), (14, nm40_1)]
def en40 : End := ⟨[(74, .sl (.arr 2 (.int .i64)))], ⟨[74, 75], [], [], []⟩⟩
def dec40 (l : List TV) (o : List (Nat × TO)) : Option (List (List Int) × Int) := match l, o with | [.dv (.sl (.arr 2 (.int .i64))) x0, .dv (.int .i64) x1], [] => some (x0, x1) | _, _ => none
noncomputable def K40_0 (a36 : Int → (List (List Int × List Int × Unit)) → Option (Int)) (a58 : Int → Int → Int → Option (Bool)) (a67 : (List (List Int × List Int × Unit)) → Int → Int → Option (List Int)) (a72 : Int → Option (List (List Int))) (a73 : (List Int) → (List Int) → Option (Bool)) (N : Nat) : Kont (List (List Int) × Int) := kont (E40 a36 a58 a67 a72 a73) lv40 N c40 [1, 1, 1, 0, 1, 0] (fin TI en40 (resOf Try.f40) dec40)
noncomputable def R40_0 (a36 : Int → (List (List Int × List Int × Unit)) → Option (Int)) (a58 : Int → Int → Int → Option (Bool)) (a67 : (List (List Int × List Int × Unit)) → Int → Int → Option (List Int)) (a72 : Int → Option (List (List Int))) (a73 : (List Int) → (List Int) → Option (Bool)) (N : Nat) (m : Nat) : TS → Option (List (List Int) × Int) := loopK (den (E40 a36 a58 a67 a72 a73) lv40 N (sub c40 [1, 1, 1, 0, 1, 0, 0])) (TS.norm nm40_0) (K40_0 a36 a58 a67 a72 a73 N) m
noncomputable def K40_1 (a36 : Int → (List (List Int × List Int × Unit)) → Option (Int)) (a58 : Int → Int → Int → Option (Bool)) (a67 : (List (List Int × List Int × Unit)) → Int → Int → Option (List Int)) (a72 : Int → Option (List (List Int))) (a73 : (List Int) → (List Int) → Option (Bool)) (N : Nat) : Kont (List (List Int) × Int) := kont (E40 a36 a58 a67 a72 a73) lv40 N c40 [1, 1, 1, 1, 1, 1, 1, 0, 1, 0] (fin TI en40 (resOf Try.f40) dec40)
noncomputable def R40_1 (a36 : Int → (List (List Int × List Int × Unit)) → Option (Int)) (a58 : Int → Int → Int → Option (Bool)) (a67 : (List (List Int × List Int × Unit)) → Int → Int → Option (List Int)) (a72 : Int → Option (List (List Int))) (a73 : (List Int) → (List Int) → Option (Bool)) (N : Nat) (m : Nat) : TS → Option (List (List Int) × Int) := loopK (den (E40 a36 a58 a67 a72 a73) lv40 N (sub c40 [1, 1, 1, 1, 1, 1, 1, 0, 1, 0, 0])) (TS.norm nm40_1) (K40_1 a36 a58 a67 a72 a73 N) m
def Sl40b (plan1 : List (List Int × List Int × Unit)) (shown2 : List Int) (r3 : List (List Int)) (i12_b : Int) (out11_b : List (List Int)) : TS := ⟨slots 74 [(1, .dv (.sl (.pair (.sl (.int .i64)) (.pair (.sl (.int .i64)) (.unit)))) plan1), (2, .dv (.sl (.int .i64)) shown2), (10, .dv (.sl (.arr 2 (.int .i64))) r3), (11, .row 1011), (12, .dv (.int .i64) i12_b)], [(1011, .row (.arr 2 (.int .i64)) out11_b)]⟩
def Sl40a (stones0 : Int) (plan1 : List (List Int × List Int × Unit)) (shown2 : List Int) (e8_a : Int) (i9_a : Int) : TS := ⟨slots 74 [(0, .dv (.int .i64) stones0), (1, .dv (.sl (.pair (.sl (.int .i64)) (.pair (.sl (.int .i64)) (.unit)))) plan1), (2, .dv (.sl (.int .i64)) shown2), (8, .dv (.int .i64) e8_a), (9, .dv (.int .i64) i9_a)], []⟩
def l40b (a36 : Int → (List (List Int × List Int × Unit)) → Option (Int)) (a58 : Int → Int → Int → Option (Bool)) (a67 : (List (List Int × List Int × Unit)) → Int → Int → Option (List Int)) (a72 : Int → Option (List (List Int))) (a73 : (List Int) → (List Int) → Option (Bool)) (N : Nat) (plan1 : List (List Int × List Int × Unit)) (shown2 : List Int) (r3 : List (List Int)) : Nat → Int → (List (List Int)) → Option (List (List Int) × Int)
  | 0, _, _ => none
  | n + 1, i12_b, out11_b => cond (decide (i12_b < (r3.length : Int))) (chk (decide (0 ≤ i12_b ∧ i12_b < (r3.length : Int))) (chk (decide (0 ≤ i12_b ∧ i12_b < (r3.length : Int))) ((a67 plan1 ((r3.getD i12_b.toNat ([(0 : Int), (0 : Int)] : List Int)).getD 0 (0 : Int)) ((r3.getD i12_b.toNat ([(0 : Int), (0 : Int)] : List Int)).getD 1 (0 : Int))).bind fun r4 =>
      (a73 r4 shown2).bind fun r5 =>
      cond (r5) (chk (decide (0 ≤ i12_b ∧ i12_b < (r3.length : Int))) (chk (small (out11_b.length + 1) 16) ((l40b a36 a58 a67 a72 a73 N plan1 shown2 r3 n (w64 (i12_b + (1 : Int))) (out11_b ++ ([r3.getD i12_b.toNat ([(0 : Int), (0 : Int)] : List Int)] : List (List Int)))))))
      ((l40b a36 a58 a67 a72 a73 N plan1 shown2 r3 n (w64 (i12_b + (1 : Int))) out11_b)))))
      (some (out11_b, (0 : Int)))
theorem wl40b (a36 : Int → (List (List Int × List Int × Unit)) → Option (Int)) (a58 : Int → Int → Int → Option (Bool)) (a67 : (List (List Int × List Int × Unit)) → Int → Int → Option (List Int)) (a72 : Int → Option (List (List Int))) (a73 : (List Int) → (List Int) → Option (Bool)) (N : Nat) (plan1 : List (List Int × List Int × Unit)) (shown2 : List Int) (r3 : List (List Int)) (m : Nat) (i12_b : Int) (out11_b : List (List Int)) : R40_1 a36 a58 a67 a72 a73 N (m + 1) (Sl40b plan1 shown2 r3 i12_b out11_b) = cond (decide (i12_b < (r3.length : Int))) (chk (decide (0 ≤ i12_b ∧ i12_b < (r3.length : Int))) (chk (decide (0 ≤ i12_b ∧ i12_b < (r3.length : Int))) ((a67 plan1 ((r3.getD i12_b.toNat ([(0 : Int), (0 : Int)] : List Int)).getD 0 (0 : Int)) ((r3.getD i12_b.toNat ([(0 : Int), (0 : Int)] : List Int)).getD 1 (0 : Int))).bind fun r4 =>
      (a73 r4 shown2).bind fun r5 =>
      cond (r5) (chk (decide (0 ≤ i12_b ∧ i12_b < (r3.length : Int))) (chk (small (out11_b.length + 1) 16) ((R40_1 a36 a58 a67 a72 a73 N m (Sl40b plan1 shown2 r3 (w64 (i12_b + (1 : Int))) (out11_b ++ ([r3.getD i12_b.toNat ([(0 : Int), (0 : Int)] : List Int)] : List (List Int))))))))
      ((R40_1 a36 a58 a67 a72 a73 N m (Sl40b plan1 shown2 r3 (w64 (i12_b + (1 : Int))) out11_b))))))
      (some (out11_b, (0 : Int))) := by kernel_rfl
theorem ql40b (a36 : Int → (List (List Int × List Int × Unit)) → Option (Int)) (a58 : Int → Int → Int → Option (Bool)) (a67 : (List (List Int × List Int × Unit)) → Int → Int → Option (List Int)) (a72 : Int → Option (List (List Int))) (a73 : (List Int) → (List Int) → Option (Bool)) (N : Nat) (plan1 : List (List Int × List Int × Unit)) (shown2 : List Int) (r3 : List (List Int)) : ∀ (m : Nat) (i12_b : Int) (out11_b : List (List Int)), R40_1 a36 a58 a67 a72 a73 N m (Sl40b plan1 shown2 r3 i12_b out11_b) = l40b a36 a58 a67 a72 a73 N plan1 shown2 r3 m i12_b out11_b
        | 0, _, _ => rfl
        | m + 1, i12_b, out11_b => by rw [wl40b]; simp only [l40b, ql40b a36 a58 a67 a72 a73 N plan1 shown2 r3 m]
def l40a (a36 : Int → (List (List Int × List Int × Unit)) → Option (Int)) (a58 : Int → Int → Int → Option (Bool)) (a67 : (List (List Int × List Int × Unit)) → Int → Int → Option (List Int)) (a72 : Int → Option (List (List Int))) (a73 : (List Int) → (List Int) → Option (Bool)) (N : Nat) (stones0 : Int) (plan1 : List (List Int × List Int × Unit)) (shown2 : List Int) : Nat → Int → Int → Option (List (List Int) × Int)
  | 0, _, _ => none
  | n + 1, e8_a, i9_a => cond (decide (i9_a < (shown2.length : Int))) (cond (e8_a == (0 : Int)) (chk (decide (0 ≤ i9_a ∧ i9_a < (shown2.length : Int))) ((a58 (shown2.getD i9_a.toNat (0 : Int)) (-1 : Int) (1 : Int)).bind fun r2 =>
      cond (!r2) ((l40a a36 a58 a67 a72 a73 N stones0 plan1 shown2 n (9 : Int) (w64 (i9_a + (1 : Int)))))
      ((l40a a36 a58 a67 a72 a73 N stones0 plan1 shown2 n e8_a (w64 (i9_a + (1 : Int)))))))
      ((l40a a36 a58 a67 a72 a73 N stones0 plan1 shown2 n e8_a (w64 (i9_a + (1 : Int))))))
      (cond (e8_a != (0 : Int)) (some (([] : List (List Int)), e8_a))
      ((a72 stones0).bind fun r3 =>
      (l40b a36 a58 a67 a72 a73 N plan1 shown2 r3 N (0 : Int) ([] : List (List Int)))))
theorem wl40a (a36 : Int → (List (List Int × List Int × Unit)) → Option (Int)) (a58 : Int → Int → Int → Option (Bool)) (a67 : (List (List Int × List Int × Unit)) → Int → Int → Option (List Int)) (a72 : Int → Option (List (List Int))) (a73 : (List Int) → (List Int) → Option (Bool)) (N : Nat) (stones0 : Int) (plan1 : List (List Int × List Int × Unit)) (shown2 : List Int) (m : Nat) (e8_a : Int) (i9_a : Int) : R40_0 a36 a58 a67 a72 a73 N (m + 1) (Sl40a stones0 plan1 shown2 e8_a i9_a) = cond (decide (i9_a < (shown2.length : Int))) (cond (e8_a == (0 : Int)) (chk (decide (0 ≤ i9_a ∧ i9_a < (shown2.length : Int))) ((a58 (shown2.getD i9_a.toNat (0 : Int)) (-1 : Int) (1 : Int)).bind fun r2 =>
      cond (!r2) ((R40_0 a36 a58 a67 a72 a73 N m (Sl40a stones0 plan1 shown2 (9 : Int) (w64 (i9_a + (1 : Int))))))
      ((R40_0 a36 a58 a67 a72 a73 N m (Sl40a stones0 plan1 shown2 e8_a (w64 (i9_a + (1 : Int))))))))
      ((R40_0 a36 a58 a67 a72 a73 N m (Sl40a stones0 plan1 shown2 e8_a (w64 (i9_a + (1 : Int)))))))
      (cond (e8_a != (0 : Int)) (some (([] : List (List Int)), e8_a))
      ((a72 stones0).bind fun r3 =>
      (R40_1 a36 a58 a67 a72 a73 N N (Sl40b plan1 shown2 r3 (0 : Int) ([] : List (List Int)))))) := by kernel_rfl
theorem ql40a (a36 : Int → (List (List Int × List Int × Unit)) → Option (Int)) (a58 : Int → Int → Int → Option (Bool)) (a67 : (List (List Int × List Int × Unit)) → Int → Int → Option (List Int)) (a72 : Int → Option (List (List Int))) (a73 : (List Int) → (List Int) → Option (Bool)) (N : Nat) (stones0 : Int) (plan1 : List (List Int × List Int × Unit)) (shown2 : List Int) : ∀ (m : Nat) (e8_a : Int) (i9_a : Int), R40_0 a36 a58 a67 a72 a73 N m (Sl40a stones0 plan1 shown2 e8_a i9_a) = l40a a36 a58 a67 a72 a73 N stones0 plan1 shown2 m e8_a i9_a
        | 0, _, _ => rfl
        | m + 1, e8_a, i9_a => by rw [wl40a]; simp only [l40a, ql40b, ql40a a36 a58 a67 a72 a73 N stones0 plan1 shown2 m]
def m40 (a36 : Int → (List (List Int × List Int × Unit)) → Option (Int)) (a58 : Int → Int → Int → Option (Bool)) (a67 : (List (List Int × List Int × Unit)) → Int → Int → Option (List Int)) (a72 : Int → Option (List (List Int))) (a73 : (List Int) → (List Int) → Option (Bool)) (N : Nat) (stones0 : Int) (plan1 : List (List Int × List Int × Unit)) (shown2 : List Int) : Option (List (List Int) × Int) :=
      (a36 stones0 plan1).bind fun r1 =>
      cond (r1 == (0 : Int)) (cond ((shown2.length : Int) != (plan1.length : Int)) ((l40a a36 a58 a67 a72 a73 N stones0 plan1 shown2 N (9 : Int) (0 : Int)))
      ((l40a a36 a58 a67 a72 a73 N stones0 plan1 shown2 N r1 (0 : Int))))
      ((l40a a36 a58 a67 a72 a73 N stones0 plan1 shown2 N r1 (0 : Int)))
theorem wm40 (a36 : Int → (List (List Int × List Int × Unit)) → Option (Int)) (a58 : Int → Int → Int → Option (Bool)) (a67 : (List (List Int × List Int × Unit)) → Int → Int → Option (List Int)) (a72 : Int → Option (List (List Int))) (a73 : (List Int) → (List Int) → Option (Bool)) (N : Nat) (stones0 : Int) (plan1 : List (List Int × List Int × Unit)) (shown2 : List Int) : callF (E40 a36 a58 a67 a72 a73) lv40 N en40 c40 (resOf Try.f40) 71 [.dv (.int .i64) stones0, .dv (.sl (.pair (.sl (.int .i64)) (.pair (.sl (.int .i64)) (.unit)))) plan1, .dv (.sl (.int .i64)) shown2] [] dec40 = (a36 stones0 plan1).bind fun r1 =>
      cond (r1 == (0 : Int)) (cond ((shown2.length : Int) != (plan1.length : Int)) ((R40_0 a36 a58 a67 a72 a73 N N (Sl40a stones0 plan1 shown2 (9 : Int) (0 : Int))))
      ((R40_0 a36 a58 a67 a72 a73 N N (Sl40a stones0 plan1 shown2 r1 (0 : Int)))))
      ((R40_0 a36 a58 a67 a72 a73 N N (Sl40a stones0 plan1 shown2 r1 (0 : Int)))) := by kernel_rfl
theorem k40 (a36 : Int → (List (List Int × List Int × Unit)) → Option (Int)) (a58 : Int → Int → Int → Option (Bool)) (a67 : (List (List Int × List Int × Unit)) → Int → Int → Option (List Int)) (a72 : Int → Option (List (List Int))) (a73 : (List Int) → (List Int) → Option (Bool)) (N : Nat) (stones0 : Int) (plan1 : List (List Int × List Int × Unit)) (shown2 : List Int) : callF (E40 a36 a58 a67 a72 a73) lv40 N en40 c40 (resOf Try.f40) 71 [.dv (.int .i64) stones0, .dv (.sl (.pair (.sl (.int .i64)) (.pair (.sl (.int .i64)) (.unit)))) plan1, .dv (.sl (.int .i64)) shown2] [] dec40 = m40 a36 a58 a67 a72 a73 N stones0 plan1 shown2 := by rw [wm40]; simp only [m40, ql40a]
theorem ok40 (a36 : Int → (List (List Int × List Int × Unit)) → Option (Int)) (a58 : Int → Int → Int → Option (Bool)) (a67 : (List (List Int × List Int × Unit)) → Int → Int → Option (List Int)) (a72 : Int → Option (List (List Int))) (a73 : (List Int) → (List Int) → Option (Bool)) (h36 : FnOk Try.prog 36 (F36 a36)) (h58 : FnOk Try.prog 58 (F58 a58)) (h67 : FnOk Try.prog 67 (F67 a67)) (h72 : FnOk Try.prog 72 (F72 a72)) (h73 : FnOk Try.prog 73 (F73 a73)) (a : Int → (List (List Int × List Int × Unit)) → (List Int) → Option (List (List Int) × Int)) (h : ∀ stones0 plan1 shown2 r, a stones0 plan1 shown2 = some r → (∃ N, m40 a36 a58 a67 a72 a73 N stones0 plan1 shown2 = some r)) : FnOk Try.prog 40 (F40 a) := by
  intro args Of x hx
  simp only [F40] at hx
  split at hx
  · rename_i stones0 plan1 shown2
    obtain ⟨N, hN⟩ := h _ _ _ _ hx
    refine lifted (L := [(36, F36 a36), (58, F58 a58), (67, F67 a67), (72, F72 a72), (73, F73 a73)]) (rc := nrc) (fz := nfz) (fn := Try.f40) (by kernel_rfl) (by kernel_rfl) (by kernel_rfl) (by kernel_rfl) rfl ?_ ((k40 a36 a58 a67 a72 a73 N _ _ _).trans hN) ?_
    · intro p hp; simp only [List.mem_cons, List.not_mem_nil, or_false] at hp; rcases hp with rfl | rfl | rfl | rfl | rfl
      · exact h36
      · exact h58
      · exact h67
      · exact h72
      · exact h73
    · intro l o hd
      simp only [dec40] at hd
      split at hd
      · obtain rfl := Option.some.inj hd; exact ⟨rfl, rfl⟩
      · cases hd
  · cases hx
def E6 (a16 : Option (Bool)) (a31 : (List (List Int × List Int × Unit)) → Option (Bool)) (a32 : (List (List Int × List Int × Unit)) → Option (List (List Int × List Int × Unit))) (a37 : Int → (List (List Int × List Int × Unit)) → Option (List Int × List Int × Int)) (a38 : Int → (List (List Int × List Int × Unit)) → Option (List Int × List Int × Int)) (a39 : Int → (List (List Int × List Int × Unit)) → (List Int) → Option (List (List Int) × Int)) (a40 : Int → (List (List Int × List Int × Unit)) → (List Int) → Option (List (List Int) × Int)) : Env := mkE TI TY [(16, F16 a16), (31, F31 a31), (32, F32 a32), (37, F37 a37), (38, F38 a38), (39, F39 a39), (40, F40 a40)] nrc nfz
noncomputable def c6 : Code := bodyOf Try.f6
def nm6_0 : Norm := ⟨[14, 16, 18], [], [], []⟩
def lv6 : Nat → Option Norm := norms [(11, nm6_0)]
def en6 : End := ⟨[], ⟨[98], [], [], []⟩⟩
def dec6 (l : List TV) (o : List (Nat × TO)) : Option (Bool) := match l, o with | [.dv (.bool) x0], [] => some (x0) | _, _ => none
noncomputable def K6_0 (a16 : Option (Bool)) (a31 : (List (List Int × List Int × Unit)) → Option (Bool)) (a32 : (List (List Int × List Int × Unit)) → Option (List (List Int × List Int × Unit))) (a37 : Int → (List (List Int × List Int × Unit)) → Option (List Int × List Int × Int)) (a38 : Int → (List (List Int × List Int × Unit)) → Option (List Int × List Int × Int)) (a39 : Int → (List (List Int × List Int × Unit)) → (List Int) → Option (List (List Int) × Int)) (a40 : Int → (List (List Int × List Int × Unit)) → (List Int) → Option (List (List Int) × Int)) (N : Nat) : Kont (Bool) := kont (E6 a16 a31 a32 a37 a38 a39 a40) lv6 N c6 [1, 1, 1, 1, 1, 1, 1, 1, 0, 1, 0] (fin TI en6 (resOf Try.f6) dec6)
noncomputable def R6_0 (a16 : Option (Bool)) (a31 : (List (List Int × List Int × Unit)) → Option (Bool)) (a32 : (List (List Int × List Int × Unit)) → Option (List (List Int × List Int × Unit))) (a37 : Int → (List (List Int × List Int × Unit)) → Option (List Int × List Int × Int)) (a38 : Int → (List (List Int × List Int × Unit)) → Option (List Int × List Int × Int)) (a39 : Int → (List (List Int × List Int × Unit)) → (List Int) → Option (List (List Int) × Int)) (a40 : Int → (List (List Int × List Int × Unit)) → (List Int) → Option (List (List Int) × Int)) (N : Nat) (m : Nat) : TS → Option (Bool) := loopK (den (E6 a16 a31 a32 a37 a38 a39 a40) lv6 N (sub c6 [1, 1, 1, 1, 1, 1, 1, 1, 0, 1, 0, 0])) (TS.norm nm6_0) (K6_0 a16 a31 a32 a37 a38 a39 a40 N) m
def Sl6a (r7 : List (List Int) × Int) (r8 : List (List Int) × Int) (i18_a : Int) : TS := ⟨slots 98 [(14, .dv (.sl (.arr 2 (.int .i64))) r7.1), (16, .dv (.sl (.arr 2 (.int .i64))) r8.1), (18, .dv (.int .i64) i18_a)], []⟩
def l6a (a16 : Option (Bool)) (a31 : (List (List Int × List Int × Unit)) → Option (Bool)) (a32 : (List (List Int × List Int × Unit)) → Option (List (List Int × List Int × Unit))) (a37 : Int → (List (List Int × List Int × Unit)) → Option (List Int × List Int × Int)) (a38 : Int → (List (List Int × List Int × Unit)) → Option (List Int × List Int × Int)) (a39 : Int → (List (List Int × List Int × Unit)) → (List Int) → Option (List (List Int) × Int)) (a40 : Int → (List (List Int × List Int × Unit)) → (List Int) → Option (List (List Int) × Int)) (N : Nat) (r7 : List (List Int) × Int) (r8 : List (List Int) × Int) : Nat → Int → Option (Bool)
  | 0, _ => none
  | n + 1, i18_a => cond (decide (i18_a < (r7.1.length : Int))) (chk (decide (0 ≤ i18_a ∧ i18_a < (r7.1.length : Int))) (chk (decide (0 ≤ i18_a ∧ i18_a < (r8.1.length : Int))) (cond (!(DT.beq (.arr 2 (.int .i64)) (r7.1.getD i18_a.toNat ([(0 : Int), (0 : Int)] : List Int)) (r8.1.getD i18_a.toNat ([(0 : Int), (0 : Int)] : List Int)))) (some false)
      ((l6a a16 a31 a32 a37 a38 a39 a40 N r7 r8 n (w64 (i18_a + (1 : Int))))))))
      ((a16).bind fun r9 =>
      some r9)
theorem wl6a (a16 : Option (Bool)) (a31 : (List (List Int × List Int × Unit)) → Option (Bool)) (a32 : (List (List Int × List Int × Unit)) → Option (List (List Int × List Int × Unit))) (a37 : Int → (List (List Int × List Int × Unit)) → Option (List Int × List Int × Int)) (a38 : Int → (List (List Int × List Int × Unit)) → Option (List Int × List Int × Int)) (a39 : Int → (List (List Int × List Int × Unit)) → (List Int) → Option (List (List Int) × Int)) (a40 : Int → (List (List Int × List Int × Unit)) → (List Int) → Option (List (List Int) × Int)) (N : Nat) (r7 : List (List Int) × Int) (r8 : List (List Int) × Int) (m : Nat) (i18_a : Int) : R6_0 a16 a31 a32 a37 a38 a39 a40 N (m + 1) (Sl6a r7 r8 i18_a) = cond (decide (i18_a < (r7.1.length : Int))) (chk (decide (0 ≤ i18_a ∧ i18_a < (r7.1.length : Int))) (chk (decide (0 ≤ i18_a ∧ i18_a < (r8.1.length : Int))) (cond (!(DT.beq (.arr 2 (.int .i64)) (r7.1.getD i18_a.toNat ([(0 : Int), (0 : Int)] : List Int)) (r8.1.getD i18_a.toNat ([(0 : Int), (0 : Int)] : List Int)))) (some false)
      ((R6_0 a16 a31 a32 a37 a38 a39 a40 N m (Sl6a r7 r8 (w64 (i18_a + (1 : Int)))))))))
      ((a16).bind fun r9 =>
      some r9) := by kernel_rfl
theorem ql6a (a16 : Option (Bool)) (a31 : (List (List Int × List Int × Unit)) → Option (Bool)) (a32 : (List (List Int × List Int × Unit)) → Option (List (List Int × List Int × Unit))) (a37 : Int → (List (List Int × List Int × Unit)) → Option (List Int × List Int × Int)) (a38 : Int → (List (List Int × List Int × Unit)) → Option (List Int × List Int × Int)) (a39 : Int → (List (List Int × List Int × Unit)) → (List Int) → Option (List (List Int) × Int)) (a40 : Int → (List (List Int × List Int × Unit)) → (List Int) → Option (List (List Int) × Int)) (N : Nat) (r7 : List (List Int) × Int) (r8 : List (List Int) × Int) : ∀ (m : Nat) (i18_a : Int), R6_0 a16 a31 a32 a37 a38 a39 a40 N m (Sl6a r7 r8 i18_a) = l6a a16 a31 a32 a37 a38 a39 a40 N r7 r8 m i18_a
        | 0, _ => rfl
        | m + 1, i18_a => by rw [wl6a]; simp only [l6a, ql6a a16 a31 a32 a37 a38 a39 a40 N r7 r8 m]
def m6 (a16 : Option (Bool)) (a31 : (List (List Int × List Int × Unit)) → Option (Bool)) (a32 : (List (List Int × List Int × Unit)) → Option (List (List Int × List Int × Unit))) (a37 : Int → (List (List Int × List Int × Unit)) → Option (List Int × List Int × Int)) (a38 : Int → (List (List Int × List Int × Unit)) → Option (List Int × List Int × Int)) (a39 : Int → (List (List Int × List Int × Unit)) → (List Int) → Option (List (List Int) × Int)) (a40 : Int → (List (List Int × List Int × Unit)) → (List Int) → Option (List (List Int) × Int)) (N : Nat) (stones0 : Int) (plan1 : List (List Int × List Int × Unit)) (shown2 : List Int) : Option (Bool) :=
      (a31 plan1).bind fun r1 =>
      cond (r1) ((a16).bind fun r2 =>
      some r2)
      (cond (decide ((shown2.length : Int) > (20 : Int))) ((a16).bind fun r3 =>
      some r3)
      ((a32 plan1).bind fun r4 =>
      (a37 stones0 plan1).bind fun r5 =>
      (a38 stones0 r4).bind fun r6 =>
      (a39 stones0 plan1 shown2).bind fun r7 =>
      (a40 stones0 r4 shown2).bind fun r8 =>
      cond (!(DT.beq (.arr 2 (.int .i64)) r5.1 r6.1)) (some false)
      (cond (!(DT.beq (.arr 2 (.int .i64)) r5.2.1 r6.2.1)) (some false)
      (cond (r5.2.2 != r6.2.2) (some false)
      (cond (r7.2 != r8.2) (some false)
      (cond ((r7.1.length : Int) != (r8.1.length : Int)) (some false)
      ((l6a a16 a31 a32 a37 a38 a39 a40 N r7 r8 N (0 : Int)))))))))
theorem wm6 (a16 : Option (Bool)) (a31 : (List (List Int × List Int × Unit)) → Option (Bool)) (a32 : (List (List Int × List Int × Unit)) → Option (List (List Int × List Int × Unit))) (a37 : Int → (List (List Int × List Int × Unit)) → Option (List Int × List Int × Int)) (a38 : Int → (List (List Int × List Int × Unit)) → Option (List Int × List Int × Int)) (a39 : Int → (List (List Int × List Int × Unit)) → (List Int) → Option (List (List Int) × Int)) (a40 : Int → (List (List Int × List Int × Unit)) → (List Int) → Option (List (List Int) × Int)) (N : Nat) (stones0 : Int) (plan1 : List (List Int × List Int × Unit)) (shown2 : List Int) : callF (E6 a16 a31 a32 a37 a38 a39 a40) lv6 N en6 c6 (resOf Try.f6) 95 [.dv (.int .i64) stones0, .dv (.sl (.pair (.sl (.int .i64)) (.pair (.sl (.int .i64)) (.unit)))) plan1, .dv (.sl (.int .i64)) shown2] [] dec6 = (a31 plan1).bind fun r1 =>
      cond (r1) ((a16).bind fun r2 =>
      some r2)
      (cond (decide ((shown2.length : Int) > (20 : Int))) ((a16).bind fun r3 =>
      some r3)
      ((a32 plan1).bind fun r4 =>
      (a37 stones0 plan1).bind fun r5 =>
      (a38 stones0 r4).bind fun r6 =>
      (a39 stones0 plan1 shown2).bind fun r7 =>
      (a40 stones0 r4 shown2).bind fun r8 =>
      cond (!(DT.beq (.arr 2 (.int .i64)) r5.1 r6.1)) (some false)
      (cond (!(DT.beq (.arr 2 (.int .i64)) r5.2.1 r6.2.1)) (some false)
      (cond (r5.2.2 != r6.2.2) (some false)
      (cond (r7.2 != r8.2) (some false)
      (cond ((r7.1.length : Int) != (r8.1.length : Int)) (some false)
      ((R6_0 a16 a31 a32 a37 a38 a39 a40 N N (Sl6a r7 r8 (0 : Int)))))))))) := by kernel_rfl
theorem k6 (a16 : Option (Bool)) (a31 : (List (List Int × List Int × Unit)) → Option (Bool)) (a32 : (List (List Int × List Int × Unit)) → Option (List (List Int × List Int × Unit))) (a37 : Int → (List (List Int × List Int × Unit)) → Option (List Int × List Int × Int)) (a38 : Int → (List (List Int × List Int × Unit)) → Option (List Int × List Int × Int)) (a39 : Int → (List (List Int × List Int × Unit)) → (List Int) → Option (List (List Int) × Int)) (a40 : Int → (List (List Int × List Int × Unit)) → (List Int) → Option (List (List Int) × Int)) (N : Nat) (stones0 : Int) (plan1 : List (List Int × List Int × Unit)) (shown2 : List Int) : callF (E6 a16 a31 a32 a37 a38 a39 a40) lv6 N en6 c6 (resOf Try.f6) 95 [.dv (.int .i64) stones0, .dv (.sl (.pair (.sl (.int .i64)) (.pair (.sl (.int .i64)) (.unit)))) plan1, .dv (.sl (.int .i64)) shown2] [] dec6 = m6 a16 a31 a32 a37 a38 a39 a40 N stones0 plan1 shown2 := by rw [wm6]; simp only [m6, ql6a]
theorem ok6 (a16 : Option (Bool)) (a31 : (List (List Int × List Int × Unit)) → Option (Bool)) (a32 : (List (List Int × List Int × Unit)) → Option (List (List Int × List Int × Unit))) (a37 : Int → (List (List Int × List Int × Unit)) → Option (List Int × List Int × Int)) (a38 : Int → (List (List Int × List Int × Unit)) → Option (List Int × List Int × Int)) (a39 : Int → (List (List Int × List Int × Unit)) → (List Int) → Option (List (List Int) × Int)) (a40 : Int → (List (List Int × List Int × Unit)) → (List Int) → Option (List (List Int) × Int)) (h16 : FnOk Try.prog 16 (F16 a16)) (h31 : FnOk Try.prog 31 (F31 a31)) (h32 : FnOk Try.prog 32 (F32 a32)) (h37 : FnOk Try.prog 37 (F37 a37)) (h38 : FnOk Try.prog 38 (F38 a38)) (h39 : FnOk Try.prog 39 (F39 a39)) (h40 : FnOk Try.prog 40 (F40 a40)) (a : Int → (List (List Int × List Int × Unit)) → (List Int) → Option (Bool)) (h : ∀ stones0 plan1 shown2 r, a stones0 plan1 shown2 = some r → (∃ N, m6 a16 a31 a32 a37 a38 a39 a40 N stones0 plan1 shown2 = some r)) : FnOk Try.prog 6 (F6 a) := by
  intro args Of x hx
  simp only [F6] at hx
  split at hx
  · rename_i stones0 plan1 shown2
    obtain ⟨N, hN⟩ := h _ _ _ _ hx
    refine lifted (L := [(16, F16 a16), (31, F31 a31), (32, F32 a32), (37, F37 a37), (38, F38 a38), (39, F39 a39), (40, F40 a40)]) (rc := nrc) (fz := nfz) (fn := Try.f6) (by kernel_rfl) (by kernel_rfl) (by kernel_rfl) (by kernel_rfl) rfl ?_ ((k6 a16 a31 a32 a37 a38 a39 a40 N _ _ _).trans hN) ?_
    · intro p hp; simp only [List.mem_cons, List.not_mem_nil, or_false] at hp; rcases hp with rfl | rfl | rfl | rfl | rfl | rfl | rfl
      · exact h16
      · exact h31
      · exact h32
      · exact h37
      · exact h38
      · exact h39
      · exact h40
    · intro l o hd
      simp only [dec6] at hd
      split at hd
      · obtain rfl := Option.some.inj hd; exact ⟨rfl, rfl⟩
      · cases hd
  · cases hx
end Go.Proofs.Ytjcgjbdlgmbepaa
