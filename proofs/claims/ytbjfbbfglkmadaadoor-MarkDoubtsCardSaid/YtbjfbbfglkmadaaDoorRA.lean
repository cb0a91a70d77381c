/-
  The functions that the law reaches, told as plain functions.
-/
import Derived.Test.YtbjfbbfglkmadaaDoorWM0
namespace Go.Proofs.YtbjfbbfglkmadaaDoor
open Go.RowKit
set_option linter.unusedVariables false
def E86 : Env := mkE TI TY [] nrc nfz
noncomputable def c86 : Code := bodyOf Tryd.f86
def lv86 : Nat → Option Norm := norms []
def en86 : End := ⟨[], ⟨[15], [], [], []⟩⟩
def dec86 (l : List TV) (o : List (Nat × TO)) : Option (Bool) := match l, o with | [.dv (.bool) x0], [] => some (x0) | _, _ => none
def m86 (N : Nat) (n0 : Int) (lo1 : Int) (hi2 : Int) : Option (Bool) :=
      cond (decide (n0 ≥ lo1)) (some (decide (n0 ≤ hi2)))
      (some false)
theorem k86 (N : Nat) (n0 : Int) (lo1 : Int) (hi2 : Int) : callF (E86) lv86 N en86 c86 (resOf Tryd.f86) 12 [.dv (.int .i64) n0, .dv (.int .i64) lo1, .dv (.int .i64) hi2] [] dec86 = m86 N n0 lo1 hi2 := by kernel_rfl
theorem ok86 (a : Y86) (h : ∀ n0 lo1 hi2 r, a n0 lo1 hi2 = some r → (∃ N, m86 N n0 lo1 hi2 = some r)) : FnOk Tryd.prog 86 (F86 a) := by
  intro args Of x hx
  simp only [F86] at hx
  split at hx
  · rename_i n0 lo1 hi2
    obtain ⟨N, hN⟩ := h _ _ _ _ hx
    refine lifted (L := []) (rc := nrc) (fz := nfz) (fn := Tryd.f86) (by kernel_rfl) (by kernel_rfl) (by kernel_rfl) (by kernel_rfl) rfl ?_ ((k86 N _ _ _).trans hN) ?_
    · intro p hp; cases hp
    · intro l o hd
      simp only [dec86] at hd
      split at hd
      · obtain rfl := Option.some.inj hd; exact ⟨rfl, rfl⟩
      · cases hd
  · cases hx
def E65 (a86 : Y86) : Env := mkE TI TY [(86, F86 a86)] nrc nfz
noncomputable def c65 : Code := bodyOf Tryd.f65
def lv65 : Nat → Option Norm := norms []
def en65 : End := ⟨[], ⟨[11], [], [], []⟩⟩
def dec65 (l : List TV) (o : List (Nat × TO)) : Option (Bool) := match l, o with | [.dv (.bool) x0], [] => some (x0) | _, _ => none
def m65 (a86 : Y86) (N : Nat) (n0 : Int) (lo1 : Int) (hi2 : Int) : Option (Bool) :=
      (a86 n0 lo1 hi2).bind fun r1 =>
      some r1
theorem k65 (a86 : Y86) (N : Nat) (n0 : Int) (lo1 : Int) (hi2 : Int) : callF (E65 a86) lv65 N en65 c65 (resOf Tryd.f65) 8 [.dv (.int .i64) n0, .dv (.int .i64) lo1, .dv (.int .i64) hi2] [] dec65 = m65 a86 N n0 lo1 hi2 := by kernel_rfl
theorem ok65 (a86 : Y86) (h86 : FnOk Tryd.prog 86 (F86 a86)) (a : Y65) (h : ∀ n0 lo1 hi2 r, a n0 lo1 hi2 = some r → (∃ N, m65 a86 N n0 lo1 hi2 = some r)) : FnOk Tryd.prog 65 (F65 a) := by
  intro args Of x hx
  simp only [F65] at hx
  split at hx
  · rename_i n0 lo1 hi2
    obtain ⟨N, hN⟩ := h _ _ _ _ hx
    refine lifted (L := [(86, F86 a86)]) (rc := nrc) (fz := nfz) (fn := Tryd.f65) (by kernel_rfl) (by kernel_rfl) (by kernel_rfl) (by kernel_rfl) rfl ?_ ((k65 a86 N _ _ _).trans hN) ?_
    · intro p hp; simp only [List.mem_cons, List.not_mem_nil, or_false] at hp; rcases hp with rfl; exact h86
    · intro l o hd
      simp only [dec65] at hd
      split at hd
      · obtain rfl := Option.some.inj hd; exact ⟨rfl, rfl⟩
      · cases hd
  · cases hx
def E23 (a65 : Y65) : Env := mkE TI TY [(65, F65 a65)] nrc nfz
noncomputable def c23 : Code := bodyOf Tryd.f23
def nm23_0 : Norm := ⟨[1, 3], [1], [], []⟩
def nm23_1 : Norm := ⟨[1, 4], [1], [], []⟩
def nm23_2 : Norm := ⟨[1, 4, 5], [1], [], []⟩
def lv23 : Nat → Option Norm := norms [(8, nm23_0), (13, nm23_1), (16, nm23_2)]
def en23 : End := ⟨[], ⟨[76], [], [], []⟩⟩
def dec23 (l : List TV) (o : List (Nat × TO)) : Option (Int) := match l, o with | [.dv (.int .i64) x0], [] => some (x0) | _, _ => none
def Sl23c (c0 : Int × List (List Int) × Unit) (i4_b : Int) (k5_c : Int) : TS := ⟨slots 76 [(1, .ptr 1 0 []), (4, .dv (.int .i64) i4_b), (5, .dv (.int .i64) k5_c)], [(1, .row (.pair (.int .i64) (.pair (.sl (.sl (.int .i64))) (.unit))) ([c0] : List Cd))]⟩
def Sl23b (c0 : Int × List (List Int) × Unit) (i4_b : Int) : TS := ⟨slots 76 [(1, .ptr 1 0 []), (4, .dv (.int .i64) i4_b)], [(1, .row (.pair (.int .i64) (.pair (.sl (.sl (.int .i64))) (.unit))) ([c0] : List Cd))]⟩
def Sl23a (c0 : Int × List (List Int) × Unit) (i3_a : Int) : TS := ⟨slots 76 [(1, .ptr 1 0 []), (3, .dv (.int .i64) i3_a)], [(1, .row (.pair (.int .i64) (.pair (.sl (.sl (.int .i64))) (.unit))) ([c0] : List Cd))]⟩
noncomputable def K23_0 (a65 : Y65) (N : Nat) : Kont (Int) := kont (E23 a65) lv23 N c23 [1, 1, 1, 1, 0, 1, 0] (fin TI en23 (resOf Tryd.f23) dec23)
noncomputable def R23_0 (a65 : Y65) (N : Nat) (m : Nat) : TS → Option (Int) := loopK (den (E23 a65) lv23 N (sub c23 [1, 1, 1, 1, 0, 1, 0, 0])) (TS.norm nm23_0) (K23_0 a65 N) m
noncomputable def K23_1 (a65 : Y65) (N : Nat) : Kont (Int) := kont (E23 a65) lv23 N c23 [1, 1, 1, 1, 1, 0, 1, 0] (fin TI en23 (resOf Tryd.f23) dec23)
noncomputable def R23_1 (a65 : Y65) (N : Nat) (m : Nat) : TS → Option (Int) := loopK (den (E23 a65) lv23 N (sub c23 [1, 1, 1, 1, 1, 0, 1, 0, 0])) (TS.norm nm23_1) (K23_1 a65 N) m
noncomputable def K23_2 (a65 : Y65) (N : Nat) (T23_1 : TS → Option (Int)) : Kont (Int) := kont (E23 a65) lv23 N (sub c23 [1, 1, 1, 1, 1, 0, 1, 0, 0]) [1, 0, 0, 1, 0] (kloop (TS.norm nm23_1) (K23_1 a65 N) T23_1)
noncomputable def R23_2 (a65 : Y65) (N : Nat) (T23_1 : TS → Option (Int)) (m : Nat) : TS → Option (Int) := loopK (den (E23 a65) lv23 N (sub c23 [1, 1, 1, 1, 1, 0, 1, 0, 0, 1, 0, 0, 1, 0, 0])) (TS.norm nm23_2) (K23_2 a65 N T23_1) m
def l23c (a65 : Y65) (N : Nat) (c0 : Int × List (List Int) × Unit) (i4_b : Int) (rec_l23b : Int → Option (Int)) : Nat → Int → Option (Int)
  | 0, _ => none
  | n + 1, k5_c => chk (decide (0 ≤ i4_b ∧ i4_b < (c0.2.1.length : Int))) (cond (decide (k5_c < ((c0.2.1.getD i4_b.toNat ([] : List Int)).length : Int))) (chk (decide (0 ≤ i4_b ∧ i4_b < (c0.2.1.length : Int))) (chk (decide (0 ≤ k5_c ∧ k5_c < ((c0.2.1.getD i4_b.toNat ([] : List Int)).length : Int))) ((a65 ((c0.2.1.getD i4_b.toNat ([] : List Int)).getD k5_c.toNat (0 : Int)) (0 : Int) (w64 (c0.1 - (1 : Int)))).bind fun r3 =>
      cond (!r3) (some (4 : Int))
      ((l23c a65 N c0 i4_b rec_l23b n (w64 (k5_c + (1 : Int))))))))
      ((rec_l23b (w64 (i4_b + (1 : Int))))))
theorem wl23c (a65 : Y65) (N : Nat) (c0 : Int × List (List Int) × Unit) (i4_b : Int) (T23_1 : TS → Option (Int)) (m : Nat) (k5_c : Int) : R23_2 a65 N T23_1 (m + 1) (Sl23c c0 i4_b k5_c) = chk (decide (0 ≤ i4_b ∧ i4_b < (c0.2.1.length : Int))) (cond (decide (k5_c < ((c0.2.1.getD i4_b.toNat ([] : List Int)).length : Int))) (chk (decide (0 ≤ i4_b ∧ i4_b < (c0.2.1.length : Int))) (chk (decide (0 ≤ k5_c ∧ k5_c < ((c0.2.1.getD i4_b.toNat ([] : List Int)).length : Int))) ((a65 ((c0.2.1.getD i4_b.toNat ([] : List Int)).getD k5_c.toNat (0 : Int)) (0 : Int) (w64 (c0.1 - (1 : Int)))).bind fun r3 =>
      cond (!r3) (some (4 : Int))
      ((R23_2 a65 N T23_1 m (Sl23c c0 i4_b (w64 (k5_c + (1 : Int)))))))))
      ((T23_1 (Sl23b c0 (w64 (i4_b + (1 : Int))))))) := by kernel_rfl
theorem ql23c (a65 : Y65) (N : Nat) (c0 : Int × List (List Int) × Unit) (i4_b : Int) (T23_1 : TS → Option (Int)) : ∀ (m : Nat) (k5_c : Int), R23_2 a65 N T23_1 m (Sl23c c0 i4_b k5_c) = l23c a65 N c0 i4_b (fun y0 => T23_1 (Sl23b c0 y0)) m k5_c
        | 0, _ => rfl
        | m + 1, k5_c => by rw [wl23c]; simp only [l23c, ql23c a65 N c0 i4_b T23_1 m]
def l23b (a65 : Y65) (N : Nat) (c0 : Int × List (List Int) × Unit) : Nat → Int → Option (Int)
  | 0, _ => none
  | n + 1, i4_b => cond (decide (i4_b < (c0.2.1.length : Int))) ((l23c a65 N c0 i4_b (fun y0 => (l23b a65 N c0 n y0)) N (0 : Int)))
      (some (0 : Int))
theorem wl23b (a65 : Y65) (N : Nat) (c0 : Int × List (List Int) × Unit) (m : Nat) (i4_b : Int) : R23_1 a65 N (m + 1) (Sl23b c0 i4_b) = cond (decide (i4_b < (c0.2.1.length : Int))) ((R23_2 a65 N (R23_1 a65 N m) N (Sl23c c0 i4_b (0 : Int))))
      (some (0 : Int)) := by kernel_rfl
theorem ql23b (a65 : Y65) (N : Nat) (c0 : Int × List (List Int) × Unit) : ∀ (m : Nat) (i4_b : Int), R23_1 a65 N m (Sl23b c0 i4_b) = l23b a65 N c0 m i4_b
        | 0, _ => rfl
        | m + 1, i4_b => by rw [wl23b]; simp only [l23b, ql23c, ql23b a65 N c0 m]
def l23a (a65 : Y65) (N : Nat) (c0 : Int × List (List Int) × Unit) : Nat → Int → Option (Int)
  | 0, _ => none
  | n + 1, i3_a => cond (decide (i3_a < (c0.2.1.length : Int))) (chk (decide (0 ≤ (0 : Int) ∧ (0 : Int) < (c0.2.1.length : Int))) ((a65 ((c0.2.1.getD 0 ([] : List Int)).length : Int) (1 : Int) (8 : Int)).bind fun r2 =>
      cond (!r2) (some (3 : Int))
      (chk (decide (0 ≤ i3_a ∧ i3_a < (c0.2.1.length : Int))) (chk (decide (0 ≤ (0 : Int) ∧ (0 : Int) < (c0.2.1.length : Int))) (cond (((c0.2.1.getD i3_a.toNat ([] : List Int)).length : Int) != ((c0.2.1.getD 0 ([] : List Int)).length : Int)) (some (3 : Int))
      ((l23a a65 N c0 n (w64 (i3_a + (1 : Int))))))))))
      ((l23b a65 N c0 N (0 : Int)))
theorem wl23a (a65 : Y65) (N : Nat) (c0 : Int × List (List Int) × Unit) (m : Nat) (i3_a : Int) : R23_0 a65 N (m + 1) (Sl23a c0 i3_a) = cond (decide (i3_a < (c0.2.1.length : Int))) (chk (decide (0 ≤ (0 : Int) ∧ (0 : Int) < (c0.2.1.length : Int))) ((a65 ((c0.2.1.getD 0 ([] : List Int)).length : Int) (1 : Int) (8 : Int)).bind fun r2 =>
      cond (!r2) (some (3 : Int))
      (chk (decide (0 ≤ i3_a ∧ i3_a < (c0.2.1.length : Int))) (chk (decide (0 ≤ (0 : Int) ∧ (0 : Int) < (c0.2.1.length : Int))) (cond (((c0.2.1.getD i3_a.toNat ([] : List Int)).length : Int) != ((c0.2.1.getD 0 ([] : List Int)).length : Int)) (some (3 : Int))
      ((R23_0 a65 N m (Sl23a c0 (w64 (i3_a + (1 : Int)))))))))))
      ((R23_1 a65 N N (Sl23b c0 (0 : Int)))) := by kernel_rfl
theorem ql23a (a65 : Y65) (N : Nat) (c0 : Int × List (List Int) × Unit) : ∀ (m : Nat) (i3_a : Int), R23_0 a65 N m (Sl23a c0 i3_a) = l23a a65 N c0 m i3_a
        | 0, _ => rfl
        | m + 1, i3_a => by rw [wl23a]; simp only [l23a, ql23b, ql23a a65 N c0 m]
def m23 (a65 : Y65) (N : Nat) (c0 : Int × List (List Int) × Unit) : Option (Int) :=
      (a65 c0.1 (2 : Int) (4 : Int)).bind fun r1 =>
      cond (!r1) (some (4 : Int))
      (cond ((c0.2.1.length : Int) == (0 : Int)) (some (1 : Int))
      (cond (decide ((c0.2.1.length : Int) > (10 : Int))) (some (2 : Int))
      ((l23a a65 N c0 N (0 : Int)))))
theorem wm23 (a65 : Y65) (N : Nat) (c0 : Int × List (List Int) × Unit) : callF (E23 a65) lv23 N en23 c23 (resOf Tryd.f23) 75 [.dv (.pair (.int .i64) (.pair (.sl (.sl (.int .i64))) (.unit))) c0] [] dec23 = (a65 c0.1 (2 : Int) (4 : Int)).bind fun r1 =>
      cond (!r1) (some (4 : Int))
      (cond ((c0.2.1.length : Int) == (0 : Int)) (some (1 : Int))
      (cond (decide ((c0.2.1.length : Int) > (10 : Int))) (some (2 : Int))
      ((R23_0 a65 N N (Sl23a c0 (0 : Int)))))) := by kernel_rfl
theorem k23 (a65 : Y65) (N : Nat) (c0 : Int × List (List Int) × Unit) : callF (E23 a65) lv23 N en23 c23 (resOf Tryd.f23) 75 [.dv (.pair (.int .i64) (.pair (.sl (.sl (.int .i64))) (.unit))) c0] [] dec23 = m23 a65 N c0 := by rw [wm23]; simp only [m23, ql23a]
theorem ok23 (a65 : Y65) (h65 : FnOk Tryd.prog 65 (F65 a65)) (a : Y23) (h : ∀ c0 r, a c0 = some r → (∃ N, m23 a65 N c0 = some r)) : FnOk Tryd.prog 23 (F23 a) := by
  intro args Of x hx
  simp only [F23] at hx
  split at hx
  · rename_i c0
    obtain ⟨N, hN⟩ := h _ _ hx
    refine lifted (L := [(65, F65 a65)]) (rc := nrc) (fz := nfz) (fn := Tryd.f23) (by kernel_rfl) (by kernel_rfl) (by kernel_rfl) (by kernel_rfl) rfl ?_ ((k23 a65 N _).trans hN) ?_
    · intro p hp; simp only [List.mem_cons, List.not_mem_nil, or_false] at hp; rcases hp with rfl; exact h65
    · intro l o hd
      simp only [dec23] at hd
      split at hd
      · obtain rfl := Option.some.inj hd; exact ⟨rfl, rfl⟩
      · cases hd
  · cases hx
def E57 (a65 : Y65) : Env := mkE TI TY [(65, F65 a65)] nrc nfz
noncomputable def c57 : Code := bodyOf Tryd.f57
def nm57_0 : Norm := ⟨[1, 2, 5], [2], [], []⟩
def lv57 : Nat → Option Norm := norms [(4, nm57_0)]
def en57 : End := ⟨[], ⟨[39], [], [], []⟩⟩
def dec57 (l : List TV) (o : List (Nat × TO)) : Option (Int) := match l, o with | [.dv (.int .i64) x0], [] => some (x0) | _, _ => none
def Sl57a (c0 : Int × List (List Int) × Unit) (l1 : List Int) (i5_a : Int) : TS := ⟨slots 39 [(1, .dv (.sl (.int .i64)) l1), (2, .ptr 2 0 []), (5, .dv (.int .i64) i5_a)], [(2, .row (.pair (.int .i64) (.pair (.sl (.sl (.int .i64))) (.unit))) ([c0] : List Cd))]⟩
noncomputable def K57_0 (a65 : Y65) (N : Nat) : Kont (Int) := kont (E57 a65) lv57 N c57 [1, 1, 0, 1, 0] (fin TI en57 (resOf Tryd.f57) dec57)
noncomputable def R57_0 (a65 : Y65) (N : Nat) (m : Nat) : TS → Option (Int) := loopK (den (E57 a65) lv57 N (sub c57 [1, 1, 0, 1, 0, 0])) (TS.norm nm57_0) (K57_0 a65 N) m
def l57a (a65 : Y65) (N : Nat) (c0 : Int × List (List Int) × Unit) (l1 : List Int) : Nat → Int → Option (Int)
  | 0, _ => none
  | n + 1, i5_a => cond (decide (i5_a < (l1.length : Int))) (chk (decide (0 ≤ i5_a ∧ i5_a < (l1.length : Int))) ((a65 (l1.getD i5_a.toNat (0 : Int)) (0 : Int) (w64 ((c0.2.1.length : Int) - (1 : Int)))).bind fun r1 =>
      cond (!r1) (some (5 : Int))
      (cond (decide (i5_a > (0 : Int))) (chk (decide (0 ≤ i5_a ∧ i5_a < (l1.length : Int))) (chk (decide (0 ≤ w64 (i5_a - (1 : Int)) ∧ w64 (i5_a - (1 : Int)) < (l1.length : Int))) (cond (decide ((l1.getD i5_a.toNat (0 : Int)) ≤ (l1.getD ((w64 (i5_a - (1 : Int))).toNat) (0 : Int)))) (some (7 : Int))
      ((l57a a65 N c0 l1 n (w64 (i5_a + (1 : Int))))))))
      ((l57a a65 N c0 l1 n (w64 (i5_a + (1 : Int))))))))
      (some (0 : Int))
theorem wl57a (a65 : Y65) (N : Nat) (c0 : Int × List (List Int) × Unit) (l1 : List Int) (m : Nat) (i5_a : Int) : R57_0 a65 N (m + 1) (Sl57a c0 l1 i5_a) = cond (decide (i5_a < (l1.length : Int))) (chk (decide (0 ≤ i5_a ∧ i5_a < (l1.length : Int))) ((a65 (l1.getD i5_a.toNat (0 : Int)) (0 : Int) (w64 ((c0.2.1.length : Int) - (1 : Int)))).bind fun r1 =>
      cond (!r1) (some (5 : Int))
      (cond (decide (i5_a > (0 : Int))) (chk (decide (0 ≤ i5_a ∧ i5_a < (l1.length : Int))) (chk (decide (0 ≤ w64 (i5_a - (1 : Int)) ∧ w64 (i5_a - (1 : Int)) < (l1.length : Int))) (cond (decide ((l1.getD i5_a.toNat (0 : Int)) ≤ (l1.getD ((w64 (i5_a - (1 : Int))).toNat) (0 : Int)))) (some (7 : Int))
      ((R57_0 a65 N m (Sl57a c0 l1 (w64 (i5_a + (1 : Int)))))))))
      ((R57_0 a65 N m (Sl57a c0 l1 (w64 (i5_a + (1 : Int)))))))))
      (some (0 : Int)) := by kernel_rfl
theorem ql57a (a65 : Y65) (N : Nat) (c0 : Int × List (List Int) × Unit) (l1 : List Int) : ∀ (m : Nat) (i5_a : Int), R57_0 a65 N m (Sl57a c0 l1 i5_a) = l57a a65 N c0 l1 m i5_a
        | 0, _ => rfl
        | m + 1, i5_a => by rw [wl57a]; simp only [l57a, ql57a a65 N c0 l1 m]
def m57 (a65 : Y65) (N : Nat) (c0 : Int × List (List Int) × Unit) (l1 : List Int) : Option (Int) :=
      cond ((l1.length : Int) == (0 : Int)) (some (1 : Int))
      ((l57a a65 N c0 l1 N (0 : Int)))
theorem wm57 (a65 : Y65) (N : Nat) (c0 : Int × List (List Int) × Unit) (l1 : List Int) : callF (E57 a65) lv57 N en57 c57 (resOf Tryd.f57) 37 [.dv (.pair (.int .i64) (.pair (.sl (.sl (.int .i64))) (.unit))) c0, .dv (.sl (.int .i64)) l1] [] dec57 = cond ((l1.length : Int) == (0 : Int)) (some (1 : Int))
      ((R57_0 a65 N N (Sl57a c0 l1 (0 : Int)))) := by kernel_rfl
theorem k57 (a65 : Y65) (N : Nat) (c0 : Int × List (List Int) × Unit) (l1 : List Int) : callF (E57 a65) lv57 N en57 c57 (resOf Tryd.f57) 37 [.dv (.pair (.int .i64) (.pair (.sl (.sl (.int .i64))) (.unit))) c0, .dv (.sl (.int .i64)) l1] [] dec57 = m57 a65 N c0 l1 := by rw [wm57]; simp only [m57, ql57a]
theorem ok57 (a65 : Y65) (h65 : FnOk Tryd.prog 65 (F65 a65)) (a : Y57) (h : ∀ c0 l1 r, a c0 l1 = some r → (∃ N, m57 a65 N c0 l1 = some r)) : FnOk Tryd.prog 57 (F57 a) := by
  intro args Of x hx
  simp only [F57] at hx
  split at hx
  · rename_i c0 l1
    obtain ⟨N, hN⟩ := h _ _ _ hx
    refine lifted (L := [(65, F65 a65)]) (rc := nrc) (fz := nfz) (fn := Tryd.f57) (by kernel_rfl) (by kernel_rfl) (by kernel_rfl) (by kernel_rfl) rfl ?_ ((k57 a65 N _ _).trans hN) ?_
    · intro p hp; simp only [List.mem_cons, List.not_mem_nil, or_false] at hp; rcases hp with rfl; exact h65
    · intro l o hd
      simp only [dec57] at hd
      split at hd
      · obtain rfl := Option.some.inj hd; exact ⟨rfl, rfl⟩
      · cases hd
  · cases hx
def E60 (a65 : Y65) : Env := mkE TI TY [(65, F65 a65)] nrc nfz
noncomputable def c60 : Code := bodyOf Tryd.f60
def nm60_0 : Norm := ⟨[1, 2, 5], [2], [], []⟩
def lv60 : Nat → Option Norm := norms [(4, nm60_0)]
def en60 : End := ⟨[], ⟨[29], [], [], []⟩⟩
def dec60 (l : List TV) (o : List (Nat × TO)) : Option (Int) := match l, o with | [.dv (.int .i64) x0], [] => some (x0) | _, _ => none
def Sl60a (c0 : Int × List (List Int) × Unit) (w1 : List Int) (k5_a : Int) : TS := ⟨slots 29 [(1, .dv (.sl (.int .i64)) w1), (2, .ptr 2 0 []), (5, .dv (.int .i64) k5_a)], [(2, .row (.pair (.int .i64) (.pair (.sl (.sl (.int .i64))) (.unit))) ([c0] : List Cd))]⟩
noncomputable def K60_0 (a65 : Y65) (N : Nat) : Kont (Int) := kont (E60 a65) lv60 N c60 [1, 1, 0, 1, 0] (fin TI en60 (resOf Tryd.f60) dec60)
noncomputable def R60_0 (a65 : Y65) (N : Nat) (m : Nat) : TS → Option (Int) := loopK (den (E60 a65) lv60 N (sub c60 [1, 1, 0, 1, 0, 0])) (TS.norm nm60_0) (K60_0 a65 N) m
def l60a (a65 : Y65) (N : Nat) (c0 : Int × List (List Int) × Unit) (w1 : List Int) : Nat → Int → Option (Int)
  | 0, _ => none
  | n + 1, k5_a => cond (decide (k5_a < (w1.length : Int))) (chk (decide (0 ≤ k5_a ∧ k5_a < (w1.length : Int))) ((a65 (w1.getD k5_a.toNat (0 : Int)) (0 : Int) (w64 (c0.1 - (1 : Int)))).bind fun r1 =>
      cond (!r1) (some (4 : Int))
      ((l60a a65 N c0 w1 n (w64 (k5_a + (1 : Int)))))))
      (some (0 : Int))
theorem wl60a (a65 : Y65) (N : Nat) (c0 : Int × List (List Int) × Unit) (w1 : List Int) (m : Nat) (k5_a : Int) : R60_0 a65 N (m + 1) (Sl60a c0 w1 k5_a) = cond (decide (k5_a < (w1.length : Int))) (chk (decide (0 ≤ k5_a ∧ k5_a < (w1.length : Int))) ((a65 (w1.getD k5_a.toNat (0 : Int)) (0 : Int) (w64 (c0.1 - (1 : Int)))).bind fun r1 =>
      cond (!r1) (some (4 : Int))
      ((R60_0 a65 N m (Sl60a c0 w1 (w64 (k5_a + (1 : Int))))))))
      (some (0 : Int)) := by kernel_rfl
theorem ql60a (a65 : Y65) (N : Nat) (c0 : Int × List (List Int) × Unit) (w1 : List Int) : ∀ (m : Nat) (k5_a : Int), R60_0 a65 N m (Sl60a c0 w1 k5_a) = l60a a65 N c0 w1 m k5_a
        | 0, _ => rfl
        | m + 1, k5_a => by rw [wl60a]; simp only [l60a, ql60a a65 N c0 w1 m]
def m60 (a65 : Y65) (N : Nat) (c0 : Int × List (List Int) × Unit) (w1 : List Int) : Option (Int) :=
      chk (decide (0 ≤ (0 : Int) ∧ (0 : Int) < (c0.2.1.length : Int))) (cond ((w1.length : Int) != ((c0.2.1.getD 0 ([] : List Int)).length : Int)) (some (3 : Int))
      ((l60a a65 N c0 w1 N (0 : Int))))
theorem wm60 (a65 : Y65) (N : Nat) (c0 : Int × List (List Int) × Unit) (w1 : List Int) : callF (E60 a65) lv60 N en60 c60 (resOf Tryd.f60) 27 [.dv (.pair (.int .i64) (.pair (.sl (.sl (.int .i64))) (.unit))) c0, .dv (.sl (.int .i64)) w1] [] dec60 = chk (decide (0 ≤ (0 : Int) ∧ (0 : Int) < (c0.2.1.length : Int))) (cond ((w1.length : Int) != ((c0.2.1.getD 0 ([] : List Int)).length : Int)) (some (3 : Int))
      ((R60_0 a65 N N (Sl60a c0 w1 (0 : Int))))) := by kernel_rfl
theorem k60 (a65 : Y65) (N : Nat) (c0 : Int × List (List Int) × Unit) (w1 : List Int) : callF (E60 a65) lv60 N en60 c60 (resOf Tryd.f60) 27 [.dv (.pair (.int .i64) (.pair (.sl (.sl (.int .i64))) (.unit))) c0, .dv (.sl (.int .i64)) w1] [] dec60 = m60 a65 N c0 w1 := by rw [wm60]; simp only [m60, ql60a]
theorem ok60 (a65 : Y65) (h65 : FnOk Tryd.prog 65 (F65 a65)) (a : Y60) (h : ∀ c0 w1 r, a c0 w1 = some r → (∃ N, m60 a65 N c0 w1 = some r)) : FnOk Tryd.prog 60 (F60 a) := by
  intro args Of x hx
  simp only [F60] at hx
  split at hx
  · rename_i c0 w1
    obtain ⟨N, hN⟩ := h _ _ _ hx
    refine lifted (L := [(65, F65 a65)]) (rc := nrc) (fz := nfz) (fn := Tryd.f60) (by kernel_rfl) (by kernel_rfl) (by kernel_rfl) (by kernel_rfl) rfl ?_ ((k60 a65 N _ _).trans hN) ?_
    · intro p hp; simp only [List.mem_cons, List.not_mem_nil, or_false] at hp; rcases hp with rfl; exact h65
    · intro l o hd
      simp only [dec60] at hd
      split at hd
      · obtain rfl := Option.some.inj hd; exact ⟨rfl, rfl⟩
      · cases hd
  · cases hx
def E61 : Env := mkE TI TY [] nrc nfz
noncomputable def c61 : Code := bodyOf Tryd.f61
def nm61_0 : Norm := ⟨[1, 2, 3, 7], [3], [], []⟩
def nm61_1 : Norm := ⟨[1, 2, 3, 7, 8, 9], [3], [], []⟩
def lv61 : Nat → Option Norm := norms [(2, nm61_0), (6, nm61_1)]
def en61 : End := ⟨[], ⟨[43], [], [], []⟩⟩
def dec61 (l : List TV) (o : List (Nat × TO)) : Option (Bool) := match l, o with | [.dv (.bool) x0], [] => some (x0) | _, _ => none
def Sl61b (c0 : Int × List (List Int) × Unit) (l1 : List Int) (w2 : List Int) (k7_a : Int) (found8_b : Bool) (i9_b : Int) : TS := ⟨slots 43 [(1, .dv (.sl (.int .i64)) l1), (2, .dv (.sl (.int .i64)) w2), (3, .ptr 3 0 []), (7, .dv (.int .i64) k7_a), (8, .dv (.bool) found8_b), (9, .dv (.int .i64) i9_b)], [(3, .row (.pair (.int .i64) (.pair (.sl (.sl (.int .i64))) (.unit))) ([c0] : List Cd))]⟩
def Sl61a (c0 : Int × List (List Int) × Unit) (l1 : List Int) (w2 : List Int) (k7_a : Int) : TS := ⟨slots 43 [(1, .dv (.sl (.int .i64)) l1), (2, .dv (.sl (.int .i64)) w2), (3, .ptr 3 0 []), (7, .dv (.int .i64) k7_a)], [(3, .row (.pair (.int .i64) (.pair (.sl (.sl (.int .i64))) (.unit))) ([c0] : List Cd))]⟩
noncomputable def K61_0 (N : Nat) : Kont (Bool) := kont (E61) lv61 N c61 [1, 0, 1, 0] (fin TI en61 (resOf Tryd.f61) dec61)
noncomputable def R61_0 (N : Nat) (m : Nat) : TS → Option (Bool) := loopK (den (E61) lv61 N (sub c61 [1, 0, 1, 0, 0])) (TS.norm nm61_0) (K61_0 N) m
noncomputable def K61_1 (N : Nat) (T61_0 : TS → Option (Bool)) : Kont (Bool) := kont (E61) lv61 N (sub c61 [1, 0, 1, 0, 0]) [1, 0, 0, 1, 0, 1, 0] (kloop (TS.norm nm61_0) (K61_0 N) T61_0)
noncomputable def R61_1 (N : Nat) (T61_0 : TS → Option (Bool)) (m : Nat) : TS → Option (Bool) := loopK (den (E61) lv61 N (sub c61 [1, 0, 1, 0, 0, 1, 0, 0, 1, 0, 1, 0, 0])) (TS.norm nm61_1) (K61_1 N T61_0) m
def l61b (N : Nat) (c0 : Int × List (List Int) × Unit) (l1 : List Int) (w2 : List Int) (k7_a : Int) (rec_l61a : Int → Option (Bool)) : Nat → Bool → Int → Option (Bool)
  | 0, _, _ => none
  | n + 1, found8_b, i9_b => cond (decide (i9_b < (l1.length : Int))) (cond (found8_b) ((l61b N c0 l1 w2 k7_a rec_l61a n true (w64 (i9_b + (1 : Int)))))
      (chk (decide (0 ≤ i9_b ∧ i9_b < (l1.length : Int))) (chk (decide (0 ≤ l1.getD i9_b.toNat (0 : Int) ∧ l1.getD i9_b.toNat (0 : Int) < (c0.2.1.length : Int))) (chk (decide (0 ≤ k7_a ∧ k7_a < ((c0.2.1.getD ((l1.getD i9_b.toNat (0 : Int)).toNat) ([] : List Int)).length : Int))) (chk (decide (0 ≤ k7_a ∧ k7_a < (w2.length : Int))) ((l61b N c0 l1 w2 k7_a rec_l61a n (((c0.2.1.getD ((l1.getD i9_b.toNat (0 : Int)).toNat) ([] : List Int)).getD k7_a.toNat (0 : Int)) == (w2.getD k7_a.toNat (0 : Int))) (w64 (i9_b + (1 : Int))))))))))
      (cond (!found8_b) (some false)
      ((rec_l61a (w64 (k7_a + (1 : Int))))))
theorem wl61b (N : Nat) (c0 : Int × List (List Int) × Unit) (l1 : List Int) (w2 : List Int) (k7_a : Int) (T61_0 : TS → Option (Bool)) (m : Nat) (found8_b : Bool) (i9_b : Int) : R61_1 N T61_0 (m + 1) (Sl61b c0 l1 w2 k7_a found8_b i9_b) = cond (decide (i9_b < (l1.length : Int))) (cond (found8_b) ((R61_1 N T61_0 m (Sl61b c0 l1 w2 k7_a true (w64 (i9_b + (1 : Int))))))
      (chk (decide (0 ≤ i9_b ∧ i9_b < (l1.length : Int))) (chk (decide (0 ≤ l1.getD i9_b.toNat (0 : Int) ∧ l1.getD i9_b.toNat (0 : Int) < (c0.2.1.length : Int))) (chk (decide (0 ≤ k7_a ∧ k7_a < ((c0.2.1.getD ((l1.getD i9_b.toNat (0 : Int)).toNat) ([] : List Int)).length : Int))) (chk (decide (0 ≤ k7_a ∧ k7_a < (w2.length : Int))) ((R61_1 N T61_0 m (Sl61b c0 l1 w2 k7_a (((c0.2.1.getD ((l1.getD i9_b.toNat (0 : Int)).toNat) ([] : List Int)).getD k7_a.toNat (0 : Int)) == (w2.getD k7_a.toNat (0 : Int))) (w64 (i9_b + (1 : Int)))))))))))
      (cond (!found8_b) (some false)
      ((T61_0 (Sl61a c0 l1 w2 (w64 (k7_a + (1 : Int))))))) := by kernel_rfl
theorem ql61b (N : Nat) (c0 : Int × List (List Int) × Unit) (l1 : List Int) (w2 : List Int) (k7_a : Int) (T61_0 : TS → Option (Bool)) : ∀ (m : Nat) (found8_b : Bool) (i9_b : Int), R61_1 N T61_0 m (Sl61b c0 l1 w2 k7_a found8_b i9_b) = l61b N c0 l1 w2 k7_a (fun y0 => T61_0 (Sl61a c0 l1 w2 y0)) m found8_b i9_b
        | 0, _, _ => rfl
        | m + 1, found8_b, i9_b => by rw [wl61b]; simp only [l61b, ql61b N c0 l1 w2 k7_a T61_0 m]
def l61a (N : Nat) (c0 : Int × List (List Int) × Unit) (l1 : List Int) (w2 : List Int) : Nat → Int → Option (Bool)
  | 0, _ => none
  | n + 1, k7_a => cond (decide (k7_a < (w2.length : Int))) ((l61b N c0 l1 w2 k7_a (fun y0 => (l61a N c0 l1 w2 n y0)) N false (0 : Int)))
      (some true)
theorem wl61a (N : Nat) (c0 : Int × List (List Int) × Unit) (l1 : List Int) (w2 : List Int) (m : Nat) (k7_a : Int) : R61_0 N (m + 1) (Sl61a c0 l1 w2 k7_a) = cond (decide (k7_a < (w2.length : Int))) ((R61_1 N (R61_0 N m) N (Sl61b c0 l1 w2 k7_a false (0 : Int))))
      (some true) := by kernel_rfl
theorem ql61a (N : Nat) (c0 : Int × List (List Int) × Unit) (l1 : List Int) (w2 : List Int) : ∀ (m : Nat) (k7_a : Int), R61_0 N m (Sl61a c0 l1 w2 k7_a) = l61a N c0 l1 w2 m k7_a
        | 0, _ => rfl
        | m + 1, k7_a => by rw [wl61a]; simp only [l61a, ql61b, ql61a N c0 l1 w2 m]
def m61 (N : Nat) (c0 : Int × List (List Int) × Unit) (l1 : List Int) (w2 : List Int) : Option (Bool) :=
      (l61a N c0 l1 w2 N (0 : Int))
theorem wm61 (N : Nat) (c0 : Int × List (List Int) × Unit) (l1 : List Int) (w2 : List Int) : callF (E61) lv61 N en61 c61 (resOf Tryd.f61) 40 [.dv (.pair (.int .i64) (.pair (.sl (.sl (.int .i64))) (.unit))) c0, .dv (.sl (.int .i64)) l1, .dv (.sl (.int .i64)) w2] [] dec61 = (R61_0 N N (Sl61a c0 l1 w2 (0 : Int))) := by kernel_rfl
theorem k61 (N : Nat) (c0 : Int × List (List Int) × Unit) (l1 : List Int) (w2 : List Int) : callF (E61) lv61 N en61 c61 (resOf Tryd.f61) 40 [.dv (.pair (.int .i64) (.pair (.sl (.sl (.int .i64))) (.unit))) c0, .dv (.sl (.int .i64)) l1, .dv (.sl (.int .i64)) w2] [] dec61 = m61 N c0 l1 w2 := by rw [wm61]; simp only [m61, ql61a]
theorem ok61 (a : Y61) (h : ∀ c0 l1 w2 r, a c0 l1 w2 = some r → (∃ N, m61 N c0 l1 w2 = some r)) : FnOk Tryd.prog 61 (F61 a) := by
  intro args Of x hx
  simp only [F61] at hx
  split at hx
  · rename_i c0 l1 w2
    obtain ⟨N, hN⟩ := h _ _ _ _ hx
    refine lifted (L := []) (rc := nrc) (fz := nfz) (fn := Tryd.f61) (by kernel_rfl) (by kernel_rfl) (by kernel_rfl) (by kernel_rfl) rfl ?_ ((k61 N _ _ _).trans hN) ?_
    · intro p hp; cases hp
    · intro l o hd
      simp only [dec61] at hd
      split at hd
      · obtain rfl := Option.some.inj hd; exact ⟨rfl, rfl⟩
      · cases hd
  · cases hx
end Go.Proofs.YtbjfbbfglkmadaaDoor
