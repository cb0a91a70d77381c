/-
  The functions that the law reaches, told as plain functions.
-/
import Derived.Test.YtbjfbbfglkmadaaDoorWM0
namespace Go.Proofs.YtbjfbbfglkmadaaDoor
open Go.RowKit
set_option linter.unusedVariables false
def E86 : Env := mkE TI TY [] nrc nfz
noncomputable def c86 : Code := bodyOf Tryd.f86
def lv86 : Nat → Option Norm := norms []
def en86 : End := ⟨[], ⟨[15], [], [], []⟩⟩
def dec86 (l : List TV) (o : List (Nat × TO)) : Option (Bool) := match l, o with | [.dv (.bool) x0], [] => some (x0) | _, _ => none
def m86 (N : Nat) (n0 : Int) (lo1 : Int) (hi2 : Int) : Option (Bool) :=
      cond (decide (n0 ≥ lo1)) (some (decide (n0 ≤ hi2)))
      (some false)
theorem k86 (N : Nat) (n0 : Int) (lo1 : Int) (hi2 : Int) : callF (E86) lv86 N en86 c86 (resOf Tryd.f86) 12 [.dv (.int .i64) n0, .dv (.int .i64) lo1, .dv (.int .i64) hi2] [] dec86 = m86 N n0 lo1 hi2 := by kernel_rfl
theorem ok86 (a : Y86) (h : ∀ n0 lo1 hi2 r, a n0 lo1 hi2 = some r → (∃ N, m86 N n0 lo1 hi2 = some r)) : FnOk Tryd.prog 86 (F86 a) := by
  intro args Of x hx
  simp only [F86] at hx
  split at hx
  · rename_i n0 lo1 hi2
    obtain ⟨N, hN⟩ := h _ _ _ _ hx
    refine lifted (L := []) (rc := nrc) (fz := nfz) (fn := Tryd.f86) (by kernel_rfl) (by kernel_rfl) (by kernel_rfl) (by kernel_rfl) rfl ?_ ((k86 N _ _ _).trans hN) ?_
    · intro p hp; cases hp
    · intro l o hd
      simp only [dec86] at hd
      split at hd
      · obtain rfl := Option.some.inj hd; exact ⟨rfl, rfl⟩
      · cases hd
  · cases hx
def E65 (a86 : Y86) : Env := mkE TI TY [(86, F86 a86)] nrc nfz
noncomputable def c65 : Code := bodyOf Tryd.f65
def lv65 : Nat → Option Norm := norms []
def en65 : End := ⟨[], ⟨[11], [], [], []⟩⟩
def dec65 (l : List TV) (o : List (Nat × TO)) : Option (Bool) := match l, o with | [.dv (.bool) x0], [] => some (x0) | _, _ => none
def m65 (a86 : Y86) (N : Nat) (n0 : Int) (lo1 : Int) (hi2 : Int) : Option (Bool) :=
      (a86 n0 lo1 hi2).bind fun r1 =>
      some r1
theorem k65 (a86 : Y86) (N : Nat) (n0 : Int) (lo1 : Int) (hi2 : Int) : callF (E65 a86) lv65 N en65 c65 (resOf Tryd.f65) 8 [.dv (.int .i64) n0, .dv (.int .i64) lo1, .dv (.int .i64) hi2] [] dec65 = m65 a86 N n0 lo1 hi2 := by kernel_rfl
theorem ok65 (a86 : Y86) (h86 : FnOk Tryd.prog 86 (F86 a86)) (a : Y65) (h : ∀ n0 lo1 hi2 r, a n0 lo1 hi2 = some r → (∃ N, m65 a86 N n0 lo1 hi2 = some r)) : FnOk Tryd.prog 65 (F65 a) := by
  intro args Of x hx
  simp only [F65] at hx
  split at hx
  · rename_i n0 lo1 hi2
    obtain ⟨N, hN⟩ := h _ _ _ _ hx
    refine lifted (L := [(86, F86 a86)]) (rc := nrc) (fz := nfz) (fn := Tryd.f65) (by kernel_rfl) (by kernel_rfl) (by kernel_rfl) (by kernel_rfl) rfl ?_ ((k65 a86 N _ _ _).trans hN) ?_
    · intro p hp; simp only [List.mem_cons, List.not_mem_nil, or_false] at hp; rcases hp with rfl; exact h86
    · intro l o hd
      simp only [dec65] at hd
      split at hd
      · obtain rfl := Option.some.inj hd; exact ⟨rfl, rfl⟩
      · cases hd
  · cases hx
def E23 (a65 : Y65) : Env := mkE TI TY [(65, F65 a65)] nrc nfz
noncomputable def c23 : Code := bodyOf Tryd.f23
def nm23_0 : Norm := ⟨[1, 3], [1], [], []⟩
def nm23_1 : Norm := ⟨[1, 4], [1], [], []⟩
def nm23_2 : Norm := ⟨[1, 4, 5], [1], [], []⟩
def lv23 : Nat → Option Norm := norms [(8, nm23_0), (13, nm23_1), (16, nm23_2)]
def en23 : End := ⟨[], ⟨[76], [], [], []⟩⟩
def dec23 (l : List TV) (o : List (Nat × TO)) : Option (Int) := match l, o with | [.dv (.int .i64) x0], [] => some (x0) | _, _ => none
def Sl23c (c0 : Int × List (List Int) × Unit) (i4_b : Int) (k5_c : Int) : TS := ⟨slots 76 [(1, .ptr 1 0 []), (4, .dv (.int .i64) i4_b), (5, .dv (.int .i64) k5_c)], [(1, .row (.pair (.int .i64) (.pair (.sl (.sl (.int .i64))) (.unit))) ([c0] : List Cd))]⟩
def Sl23b (c0 : Int × List (List Int) × Unit) (i4_b : Int) : TS := ⟨slots 76 [(1, .ptr 1 0 []), (4, .dv (.int .i64) i4_b)], [(1, .row (.pair (.int .i64) (.pair (.sl (.sl (.int .i64))) (.unit))) ([c0] : List Cd))]⟩
def Sl23a (c0 : Int × List (List Int) × Unit) (i3_a : Int) : TS := ⟨slots 76 [(1, .ptr 1 0 []), (3, .dv (.int .i64) i3_a)], [(1, .row (.pair (.int .i64) (.pair (.sl (.sl (.int .i64))) (.unit))) ([c0] : List Cd))]⟩
noncomputable def K23_0 (a65 : Y65) (N : Nat) : Kont (Int) := kont (E23 a65) lv23 N c23 [1, 1, 1, 1, 0, 1, 0] (fin TI en23 (resOf Tryd.f23) dec23)
noncomputable def R23_0 (a65 : Y65) (N : Nat) (m : Nat) : TS → Option (Int) := loopK (den (E23 a65) lv23 N (sub c23 [1, 1, 1, 1, 0, 1, 0, 0])) (TS.norm nm23_0) (K23_0 a65 N) m
noncomputable def K23_1 (a65 : Y65) (N : Nat) : Kont (Int) := kont (E23 a65) lv23 N c23 [1, 1, 1, 1, 1, 0, 1, 0] (fin TI en23 (resOf Tryd.f23) dec23)
noncomputable def R23_1 (a65 : Y65) (N : Nat) (m : Nat) : TS → Option (Int) := loopK (den (E23 a65) lv23 N (sub c23 [1, 1, 1, 1, 1, 0, 1, 0, 0])) (TS.norm nm23_1) (K23_1 a65 N) m
noncomputable def K23_2 (a65 : Y65) (N : Nat) (T23_1 : TS → Option (Int)) : Kont (Int) := kont (E23 a65) lv23 N (sub c23 [1, 1, 1, 1, 1, 0, 1, 0, 0]) [1, 0, 0, 1, 0] (kloop (TS.norm nm23_1) (K23_1 a65 N) T23_1)
noncomputable def R23_2 (a65 : Y65) (N : Nat) (T23_1 : TS → Option (Int)) (m : Nat) : TS → Option (Int) := loopK (den (E23 a65) lv23 N (sub c23 [1, 1, 1, 1, 1, 0, 1, 0, 0, 1, 0, 0, 1, 0, 0])) (TS.norm nm23_2) (K23_2 a65 N T23_1) m
def l23c (a65 : Y65) (N : Nat) (c0 : Int × List (List Int) × Unit) (i4_b : Int) (rec_l23b : Int → Option (Int)) : Nat → Int → Option (Int)
  | 0, _ => none
  | n + 1, k5_c => chk (decide (0 ≤ i4_b ∧ i4_b < (c0.2.1.length : Int))) (cond (decide (k5_c < ((c0.2.1.getD i4_b.toNat ([] : List Int)).length : Int))) (chk (decide (0 ≤ i4_b ∧ i4_b < (c0.2.1.length : Int))) (chk (decide (0 ≤ k5_c ∧ k5_c < ((c0.2.1.getD i4_b.toNat ([] : List Int)).length : Int))) ((a65 ((c0.2.1.getD i4_b.toNat ([] : List Int)).getD k5_c.toNat (0 : Int)) (0 : Int) (w64 (c0.1 - (1 : Int)))).bind fun r3 =>
      cond (!r3) (some (4 : Int))
      ((l23c a65 N c0 i4_b rec_l23b n (w64 (k5_c + (1 : Int))))))))
      ((rec_l23b (w64 (i4_b + (1 : Int))))))
theorem wl23c (a65 : Y65) (N : Nat) (c0 : Int × List (List Int) × Unit) (i4_b : Int) (T23_1 : TS → Option (Int)) (m : Nat) (k5_c : Int) : R23_2 a65 N T23_1 (m + 1) (Sl23c c0 i4_b k5_c) = chk (decide (0 ≤ i4_b ∧ i4_b < (c0.2.1.length : Int))) (cond (decide (k5_c < ((c0.2.1.getD i4_b.toNat ([] : List Int)).length : Int))) (chk (decide (0 ≤ i4_b ∧ i4_b < (c0.2.1.length : Int))) (chk (decide (0 ≤ k5_c ∧ k5_c < ((c0.2.1.getD i4_b.toNat ([] : List Int)).length : Int))) ((a65 ((c0.2.1.getD i4_b.toNat ([] : List Int)).getD k5_c.toNat (0 : Int)) (0 : Int) (w64 (c0.1 - (1 : Int)))).bind fun r3 =>
      cond (!r3) (some (4 : Int))
      ((R23_2 a65 N T23_1 m (Sl23c c0 i4_b (w64 (k5_c + (1 : Int)))))))))
      ((T23_1 (Sl23b c0 (w64 (i4_b + (1 : Int))))))) := by kernel_rfl
theorem ql23c (a65 : Y65) (N : Nat) (c0 : Int × List (List Int) × Unit) (i4_b : Int) (T23_1 : TS → Option (Int)) : ∀ (m : Nat) (k5_c : Int), R23_2 a65 N T23_1 m (Sl23c c0 i4_b k5_c) = l23c a65 N c0 i4_b (fun y0 => T23_1 (Sl23b c0 y0)) m k5_c
        | 0, _ => rfl
        | m + 1, k5_c => by rw [wl23c]; simp only [l23c, ql23c a65 N c0 i4_b T23_1 m]
def l23b (a65 : Y65) (N : Nat) (c0 : Int × List (List Int) × Unit) : Nat → Int → Option (Int)
  | 0, _ => none
  | n + 1, i4_b => cond (decide (i4_b < (c0.2.1.length : Int))) ((l23c a65 N c0 i4_b (fun y0 => (l23b a65 N c0 n y0)) N (0 : Int)))
      (some (0 : Int))
theorem wl23b (a65 : Y65) (N : Nat) (c0 : Int × List (List Int) × Unit) (m : Nat) (i4_b : Int) : R23_1 a65 N (m + 1) (Sl23b c0 i4_b) = cond (decide (i4_b < (c0.2.1.length : Int))) ((R23_2 a65 N (R23_1 a65 N m) N (Sl23c c0 i4_b (0 : Int))))
      (some (0 : Int)) := by kernel_rfl
theorem ql23b (a65 : Y65) (N : Nat) (c0 : Int × List (List Int) × Unit) : ∀ (m : Nat) (i4_b : Int), R23_1 a65 N m (Sl23b c0 i4_b) = l23b a65 N c0 m i4_b
        | 0, _ => rfl
        | m + 1, i4_b => by rw [wl23b]; simp only [l23b, ql23c, ql23b a65 N c0 m]
def l23a (a65 : Y65) (N : Nat) (c0 : Int × List (List Int) × Unit) : Nat → Int → Option (Int)
  | 0, _ => none
  | n + 1, i3_a => cond (decide (i3_a < (c0.2.1.length : Int))) (chk (decide (0 ≤ (0 : Int) ∧ (0 : Int) < (c0.2.1.length : Int))) ((a65 ((c0.2.1.getD 0 ([] : List Int)).length : Int) (1 : Int) (8 : Int)).bind fun r2 =>
      cond (!r2) (some (3 : Int))
      (chk (decide (0 ≤ i3_a ∧ i3_a < (c0.2.1.length : Int))) (chk (decide (0 ≤ (0 : Int) ∧ (0 : Int) < (c0.2.1.length : Int))) (cond (((c0.2.1.getD i3_a.toNat ([] : List Int)).length : Int) != ((c0.2.1.getD 0 ([] : List Int)).length : Int)) (some (3 : Int))
      ((l23a a65 N c0 n (w64 (i3_a + (1 : Int))))))))))
      ((l23b a65 N c0 N (0 : Int)))
theorem wl23a (a65 : Y65) (N : Nat) (c0 : Int × List (List Int) × Unit) (m : Nat) (i3_a : Int) : R23_0 a65 N (m + 1) (Sl23a c0 i3_a) = cond (decide (i3_a < (c0.2.1.length : Int))) (chk (decide (0 ≤ (0 : Int) ∧ (0 : Int) < (c0.2.1.length : Int))) ((a65 ((c0.2.1.getD 0 ([] : List Int)).length : Int) (1 : Int) (8 : Int)).bind fun r2 =>
      cond (!r2) (some (3 : Int))
      (chk (decide (0 ≤ i3_a ∧ i3_a < (c0.2.1.length : Int))) (chk (decide (0 ≤ (0 : Int) ∧ (0 : Int) < (c0.2.1.length : Int))) (cond (((c0.2.1.getD i3_a.toNat ([] : List Int)).length : Int) != ((c0.2.1.getD 0 ([] : List Int)).length : Int)) (some (3 : Int))
      ((R23_0 a65 N m (Sl23a c0 (w64 (i3_a + (1 : Int)))))))))))
      ((R23_1 a65 N N (Sl23b c0 (0 : Int)))) := by kernel_rfl
theorem ql23a (a65 : Y65) (N : Nat) (c0 : Int × List (List Int) × Unit) : ∀ (m : Nat) (i3_a : Int), R23_0 a65 N m (Sl23a c0 i3_a) = l23a a65 N c0 m i3_a
        | 0, _ => rfl
        | m + 1, i3_a => by rw [wl23a]; simp only [l23a, ql23b, ql23a a65 N c0 m]
def m23 (a65 : Y65) (N : Nat) (c0 : Int × List (List Int) × Unit) : Option (Int) :=
      (a65 c0.1 (2 : Int) (4 : Int)).bind fun r1 =>
      cond (!r1) (some (4 : Int))
      (cond ((c0.2.1.length : Int) == (0 : Int)) (some (1 : Int))
      (cond (decide ((c0.2.1.length : Int) > (10 : Int))) (some (2 : Int))
      ((l23a a65 N c0 N (0 : Int)))))
theorem wm23 (a65 : Y65) (N : Nat) (c0 : Int × List (List Int) × Unit) : callF (E23 a65) lv23 N en23 c23 (resOf Tryd.f23) 75 [.dv (.pair (.int .i64) (.pair (.sl (.sl (.int .i64))) (.unit))) c0] [] dec23 = (a65 c0.1 (2 : Int) (4 : Int)).bind fun r1 =>
      cond (!r1) (some (4 : Int))
      (cond ((c0.2.1.length : Int) == (0 : Int)) (some (1 : Int))
      (cond (decide ((c0.2.1.length : Int) > (10 : Int))) (some (2 : Int))
      ((R23_0 a65 N N (Sl23a c0 (0 : Int)))))) := by kernel_rfl
theorem k23 (a65 : Y65) (N : Nat) (c0 : Int × List (List Int) × Unit) : callF (E23 a65) lv23 N en23 c23 (resOf Tryd.f23) 75 [.dv (.pair (.int .i64) (.pair (.sl (.sl (.int .i64))) (.unit))) c0] [] dec23 = m23 a65 N c0 := by rw [wm23]; simp only [m23, ql23a]
theorem ok23 (a65 : Y65) (h65 : FnOk Tryd.prog 65 (F65 a65)) (a : Y23) (h : ∀ c0 r, a c0 = some r → (∃ N, m23 a65 N c0 = some r)) : FnOk Tryd.prog 23 (F23 a) := by
  intro args Of x hx
  simp only [F23] at hx
  split at hx
  · rename_i c0
    obtain ⟨N, hN⟩ := h _ _ hx
    refine lifted (L := [(65, F65 a65)]) (rc := nrc) (fz := nfz) (fn := Tryd.f23) (by kernel_rfl) (by kernel_rfl) (by kernel_rfl) (by kernel_rfl) rfl ?_ ((k23 a65 N _).trans hN) ?_
    · intro p hp; simp only [List.mem_cons, List.not_mem_nil, or_false] at hp; rcases hp with rfl; exact h65
    · intro l o hd
      simp only [dec23] at hd
      split at hd
      · obtain rfl := Option.some.inj hd; exact ⟨rfl, rfl⟩
      · cases hd
  · cases hx
def E54 : Env := mkE TI TY [] nrc nfz
noncomputable def c54 : Code := bodyOf Tryd.f54
def nm54_0 : Norm := ⟨[0, 1, 5, 6], [], [], []⟩
def lv54 : Nat → Option Norm := norms [(3, nm54_0)]
def en54 : End := ⟨[], ⟨[25], [], [], []⟩⟩
def dec54 (l : List TV) (o : List (Nat × TO)) : Option (Int) := match l, o with | [.dv (.int .i64) x0], [] => some (x0) | _, _ => none
def Sl54a (a0 : List Int) (b1 : List Int) (n5_a : Int) (k6_a : Int) : TS := ⟨slots 25 [(0, .dv (.sl (.int .i64)) a0), (1, .dv (.sl (.int .i64)) b1), (5, .dv (.int .i64) n5_a), (6, .dv (.int .i64) k6_a)], []⟩
noncomputable def K54_0 (N : Nat) : Kont (Int) := kont (E54) lv54 N c54 [1, 1, 0, 1, 0] (fin TI en54 (resOf Tryd.f54) dec54)
noncomputable def R54_0 (N : Nat) (m : Nat) : TS → Option (Int) := loopK (den (E54) lv54 N (sub c54 [1, 1, 0, 1, 0, 0])) (TS.norm nm54_0) (K54_0 N) m
def l54a (N : Nat) (a0 : List Int) (b1 : List Int) : Nat → Int → Int → Option (Int)
  | 0, _, _ => none
  | n + 1, n5_a, k6_a => cond (decide (k6_a < (a0.length : Int))) (chk (decide (0 ≤ k6_a ∧ k6_a < (a0.length : Int))) (chk (decide (0 ≤ k6_a ∧ k6_a < (b1.length : Int))) (cond ((a0.getD k6_a.toNat (0 : Int)) != (b1.getD k6_a.toNat (0 : Int))) ((l54a N a0 b1 n (w64 (n5_a + (1 : Int))) (w64 (k6_a + (1 : Int)))))
      ((l54a N a0 b1 n n5_a (w64 (k6_a + (1 : Int))))))))
      (some n5_a)
theorem wl54a (N : Nat) (a0 : List Int) (b1 : List Int) (m : Nat) (n5_a : Int) (k6_a : Int) : R54_0 N (m + 1) (Sl54a a0 b1 n5_a k6_a) = cond (decide (k6_a < (a0.length : Int))) (chk (decide (0 ≤ k6_a ∧ k6_a < (a0.length : Int))) (chk (decide (0 ≤ k6_a ∧ k6_a < (b1.length : Int))) (cond ((a0.getD k6_a.toNat (0 : Int)) != (b1.getD k6_a.toNat (0 : Int))) ((R54_0 N m (Sl54a a0 b1 (w64 (n5_a + (1 : Int))) (w64 (k6_a + (1 : Int))))))
      ((R54_0 N m (Sl54a a0 b1 n5_a (w64 (k6_a + (1 : Int)))))))))
      (some n5_a) := by kernel_rfl
theorem ql54a (N : Nat) (a0 : List Int) (b1 : List Int) : ∀ (m : Nat) (n5_a : Int) (k6_a : Int), R54_0 N m (Sl54a a0 b1 n5_a k6_a) = l54a N a0 b1 m n5_a k6_a
        | 0, _, _ => rfl
        | m + 1, n5_a, k6_a => by rw [wl54a]; simp only [l54a, ql54a N a0 b1 m]
def m54 (N : Nat) (a0 : List Int) (b1 : List Int) : Option (Int) :=
      (l54a N a0 b1 N (0 : Int) (0 : Int))
theorem wm54 (N : Nat) (a0 : List Int) (b1 : List Int) : callF (E54) lv54 N en54 c54 (resOf Tryd.f54) 23 [.dv (.sl (.int .i64)) a0, .dv (.sl (.int .i64)) b1] [] dec54 = (R54_0 N N (Sl54a a0 b1 (0 : Int) (0 : Int))) := by kernel_rfl
theorem k54 (N : Nat) (a0 : List Int) (b1 : List Int) : callF (E54) lv54 N en54 c54 (resOf Tryd.f54) 23 [.dv (.sl (.int .i64)) a0, .dv (.sl (.int .i64)) b1] [] dec54 = m54 N a0 b1 := by rw [wm54]; simp only [m54, ql54a]
theorem ok54 (a : Y54) (h : ∀ a0 b1 r, a a0 b1 = some r → (∃ N, m54 N a0 b1 = some r)) : FnOk Tryd.prog 54 (F54 a) := by
  intro args Of x hx
  simp only [F54] at hx
  split at hx
  · rename_i a0 b1
    obtain ⟨N, hN⟩ := h _ _ _ hx
    refine lifted (L := []) (rc := nrc) (fz := nfz) (fn := Tryd.f54) (by kernel_rfl) (by kernel_rfl) (by kernel_rfl) (by kernel_rfl) rfl ?_ ((k54 N _ _).trans hN) ?_
    · intro p hp; cases hp
    · intro l o hd
      simp only [dec54] at hd
      split at hd
      · obtain rfl := Option.some.inj hd; exact ⟨rfl, rfl⟩
      · cases hd
  · cases hx
def E17 (a23 : Y23) (a54 : Y54) : Env := mkE TI TY [(23, F23 a23), (54, F54 a54)] nrc nfz
noncomputable def c17 : Code := bodyOf Tryd.f17
def nm17_0 : Norm := ⟨[1, 5, 6], [1], [], []⟩
def nm17_1 : Norm := ⟨[1, 5, 6, 7], [1], [], []⟩
def lv17 : Nat → Option Norm := norms [(8, nm17_0), (11, nm17_1)]
def en17 : End := ⟨[], ⟨[47, 48], [], [], []⟩⟩
def dec17 (l : List TV) (o : List (Nat × TO)) : Option (Int × Int) := match l, o with | [.dv (.int .i64) x0, .dv (.int .i64) x1], [] => some (x0, x1) | _, _ => none
def Sl17b (c0 : Int × List (List Int) × Unit) (i6_a : Int) (n5_b : Int) (k7_b : Int) : TS := ⟨slots 47 [(1, .ptr 1 0 []), (5, .dv (.int .i64) n5_b), (6, .dv (.int .i64) i6_a), (7, .dv (.int .i64) k7_b)], [(1, .row (.pair (.int .i64) (.pair (.sl (.sl (.int .i64))) (.unit))) ([c0] : List Cd))]⟩
def Sl17a (c0 : Int × List (List Int) × Unit) (n5_a : Int) (i6_a : Int) : TS := ⟨slots 47 [(1, .ptr 1 0 []), (5, .dv (.int .i64) n5_a), (6, .dv (.int .i64) i6_a)], [(1, .row (.pair (.int .i64) (.pair (.sl (.sl (.int .i64))) (.unit))) ([c0] : List Cd))]⟩
noncomputable def K17_0 (a23 : Y23) (a54 : Y54) (N : Nat) : Kont (Int × Int) := kont (E17 a23 a54) lv17 N c17 [1, 1, 1, 1, 1, 0, 1, 0] (fin TI en17 (resOf Tryd.f17) dec17)
noncomputable def R17_0 (a23 : Y23) (a54 : Y54) (N : Nat) (m : Nat) : TS → Option (Int × Int) := loopK (den (E17 a23 a54) lv17 N (sub c17 [1, 1, 1, 1, 1, 0, 1, 0, 0])) (TS.norm nm17_0) (K17_0 a23 a54 N) m
noncomputable def K17_1 (a23 : Y23) (a54 : Y54) (N : Nat) (T17_0 : TS → Option (Int × Int)) : Kont (Int × Int) := kont (E17 a23 a54) lv17 N (sub c17 [1, 1, 1, 1, 1, 0, 1, 0, 0]) [1, 0, 0, 1, 0] (kloop (TS.norm nm17_0) (K17_0 a23 a54 N) T17_0)
noncomputable def R17_1 (a23 : Y23) (a54 : Y54) (N : Nat) (T17_0 : TS → Option (Int × Int)) (m : Nat) : TS → Option (Int × Int) := loopK (den (E17 a23 a54) lv17 N (sub c17 [1, 1, 1, 1, 1, 0, 1, 0, 0, 1, 0, 0, 1, 0, 0])) (TS.norm nm17_1) (K17_1 a23 a54 N T17_0) m
def l17b (a23 : Y23) (a54 : Y54) (N : Nat) (c0 : Int × List (List Int) × Unit) (i6_a : Int) (rec_l17a : Int → Int → Option (Int × Int)) : Nat → Int → Int → Option (Int × Int)
  | 0, _, _ => none
  | n + 1, n5_b, k7_b => cond (decide (k7_b < i6_a)) (chk (decide (0 ≤ i6_a ∧ i6_a < (c0.2.1.length : Int))) (chk (decide (0 ≤ k7_b ∧ k7_b < (c0.2.1.length : Int))) ((a54 (c0.2.1.getD i6_a.toNat ([] : List Int)) (c0.2.1.getD k7_b.toNat ([] : List Int))).bind fun r2 =>
      (l17b a23 a54 N c0 i6_a rec_l17a n (imin n5_b r2) (w64 (k7_b + (1 : Int)))))))
      ((rec_l17a n5_b (w64 (i6_a + (1 : Int)))))
theorem wl17b (a23 : Y23) (a54 : Y54) (N : Nat) (c0 : Int × List (List Int) × Unit) (i6_a : Int) (T17_0 : TS → Option (Int × Int)) (m : Nat) (n5_b : Int) (k7_b : Int) : R17_1 a23 a54 N T17_0 (m + 1) (Sl17b c0 i6_a n5_b k7_b) = cond (decide (k7_b < i6_a)) (chk (decide (0 ≤ i6_a ∧ i6_a < (c0.2.1.length : Int))) (chk (decide (0 ≤ k7_b ∧ k7_b < (c0.2.1.length : Int))) ((a54 (c0.2.1.getD i6_a.toNat ([] : List Int)) (c0.2.1.getD k7_b.toNat ([] : List Int))).bind fun r2 =>
      (R17_1 a23 a54 N T17_0 m (Sl17b c0 i6_a (imin n5_b r2) (w64 (k7_b + (1 : Int))))))))
      ((T17_0 (Sl17a c0 n5_b (w64 (i6_a + (1 : Int)))))) := by kernel_rfl
theorem ql17b (a23 : Y23) (a54 : Y54) (N : Nat) (c0 : Int × List (List Int) × Unit) (i6_a : Int) (T17_0 : TS → Option (Int × Int)) : ∀ (m : Nat) (n5_b : Int) (k7_b : Int), R17_1 a23 a54 N T17_0 m (Sl17b c0 i6_a n5_b k7_b) = l17b a23 a54 N c0 i6_a (fun y0 y1 => T17_0 (Sl17a c0 y0 y1)) m n5_b k7_b
        | 0, _, _ => rfl
        | m + 1, n5_b, k7_b => by rw [wl17b]; simp only [l17b, ql17b a23 a54 N c0 i6_a T17_0 m]
def l17a (a23 : Y23) (a54 : Y54) (N : Nat) (c0 : Int × List (List Int) × Unit) : Nat → Int → Int → Option (Int × Int)
  | 0, _, _ => none
  | n + 1, n5_a, i6_a => cond (decide (i6_a < (c0.2.1.length : Int))) ((l17b a23 a54 N c0 i6_a (fun y0 y1 => (l17a a23 a54 N c0 n y0 y1)) N n5_a (0 : Int)))
      (some (n5_a, (0 : Int)))
theorem wl17a (a23 : Y23) (a54 : Y54) (N : Nat) (c0 : Int × List (List Int) × Unit) (m : Nat) (n5_a : Int) (i6_a : Int) : R17_0 a23 a54 N (m + 1) (Sl17a c0 n5_a i6_a) = cond (decide (i6_a < (c0.2.1.length : Int))) ((R17_1 a23 a54 N (R17_0 a23 a54 N m) N (Sl17b c0 i6_a n5_a (0 : Int))))
      (some (n5_a, (0 : Int))) := by kernel_rfl
theorem ql17a (a23 : Y23) (a54 : Y54) (N : Nat) (c0 : Int × List (List Int) × Unit) : ∀ (m : Nat) (n5_a : Int) (i6_a : Int), R17_0 a23 a54 N m (Sl17a c0 n5_a i6_a) = l17a a23 a54 N c0 m n5_a i6_a
        | 0, _, _ => rfl
        | m + 1, n5_a, i6_a => by rw [wl17a]; simp only [l17a, ql17b, ql17a a23 a54 N c0 m]
def m17 (a23 : Y23) (a54 : Y54) (N : Nat) (c0 : Int × List (List Int) × Unit) : Option (Int × Int) :=
      (a23 c0).bind fun r1 =>
      cond (r1 == (0 : Int)) (cond ((c0.2.1.length : Int) == (1 : Int)) (some ((0 : Int), (14 : Int)))
      (cond (r1 != (0 : Int)) (some ((0 : Int), r1))
      ((l17a a23 a54 N c0 N (8 : Int) (0 : Int)))))
      (cond (r1 != (0 : Int)) (some ((0 : Int), r1))
      ((l17a a23 a54 N c0 N (8 : Int) (0 : Int))))
theorem wm17 (a23 : Y23) (a54 : Y54) (N : Nat) (c0 : Int × List (List Int) × Unit) : callF (E17 a23 a54) lv17 N en17 c17 (resOf Tryd.f17) 46 [.dv (.pair (.int .i64) (.pair (.sl (.sl (.int .i64))) (.unit))) c0] [] dec17 = (a23 c0).bind fun r1 =>
      cond (r1 == (0 : Int)) (cond ((c0.2.1.length : Int) == (1 : Int)) (some ((0 : Int), (14 : Int)))
      (cond (r1 != (0 : Int)) (some ((0 : Int), r1))
      ((R17_0 a23 a54 N N (Sl17a c0 (8 : Int) (0 : Int))))))
      (cond (r1 != (0 : Int)) (some ((0 : Int), r1))
      ((R17_0 a23 a54 N N (Sl17a c0 (8 : Int) (0 : Int))))) := by kernel_rfl
theorem k17 (a23 : Y23) (a54 : Y54) (N : Nat) (c0 : Int × List (List Int) × Unit) : callF (E17 a23 a54) lv17 N en17 c17 (resOf Tryd.f17) 46 [.dv (.pair (.int .i64) (.pair (.sl (.sl (.int .i64))) (.unit))) c0] [] dec17 = m17 a23 a54 N c0 := by rw [wm17]; simp only [m17, ql17a]
theorem ok17 (a23 : Y23) (a54 : Y54) (h23 : FnOk Tryd.prog 23 (F23 a23)) (h54 : FnOk Tryd.prog 54 (F54 a54)) (a : Y17) (h : ∀ c0 r, a c0 = some r → (∃ N, m17 a23 a54 N c0 = some r)) : FnOk Tryd.prog 17 (F17 a) := by
  intro args Of x hx
  simp only [F17] at hx
  split at hx
  · rename_i c0
    obtain ⟨N, hN⟩ := h _ _ hx
    refine lifted (L := [(23, F23 a23), (54, F54 a54)]) (rc := nrc) (fz := nfz) (fn := Tryd.f17) (by kernel_rfl) (by kernel_rfl) (by kernel_rfl) (by kernel_rfl) rfl ?_ ((k17 a23 a54 N _).trans hN) ?_
    · intro p hp; simp only [List.mem_cons, List.not_mem_nil, or_false] at hp; rcases hp with rfl | rfl
      · exact h23
      · exact h54
    · intro l o hd
      simp only [dec17] at hd
      split at hd
      · obtain rfl := Option.some.inj hd; exact ⟨rfl, rfl⟩
      · cases hd
  · cases hx
def E57 (a65 : Y65) : Env := mkE TI TY [(65, F65 a65)] nrc nfz
noncomputable def c57 : Code := bodyOf Tryd.f57
def nm57_0 : Norm := ⟨[1, 2, 5], [2], [], []⟩
def lv57 : Nat → Option Norm := norms [(4, nm57_0)]
def en57 : End := ⟨[], ⟨[39], [], [], []⟩⟩
def dec57 (l : List TV) (o : List (Nat × TO)) : Option (Int) := match l, o with | [.dv (.int .i64) x0], [] => some (x0) | _, _ => none
def Sl57a (c0 : Int × List (List Int) × Unit) (l1 : List Int) (i5_a : Int) : TS := ⟨slots 39 [(1, .dv (.sl (.int .i64)) l1), (2, .ptr 2 0 []), (5, .dv (.int .i64) i5_a)], [(2, .row (.pair (.int .i64) (.pair (.sl (.sl (.int .i64))) (.unit))) ([c0] : List Cd))]⟩
noncomputable def K57_0 (a65 : Y65) (N : Nat) : Kont (Int) := kont (E57 a65) lv57 N c57 [1, 1, 0, 1, 0] (fin TI en57 (resOf Tryd.f57) dec57)
noncomputable def R57_0 (a65 : Y65) (N : Nat) (m : Nat) : TS → Option (Int) := loopK (den (E57 a65) lv57 N (sub c57 [1, 1, 0, 1, 0, 0])) (TS.norm nm57_0) (K57_0 a65 N) m
def l57a (a65 : Y65) (N : Nat) (c0 : Int × List (List Int) × Unit) (l1 : List Int) : Nat → Int → Option (Int)
  | 0, _ => none
  | n + 1, i5_a => cond (decide (i5_a < (l1.length : Int))) (chk (decide (0 ≤ i5_a ∧ i5_a < (l1.length : Int))) ((a65 (l1.getD i5_a.toNat (0 : Int)) (0 : Int) (w64 ((c0.2.1.length : Int) - (1 : Int)))).bind fun r1 =>
      cond (!r1) (some (5 : Int))
      (cond (decide (i5_a > (0 : Int))) (chk (decide (0 ≤ i5_a ∧ i5_a < (l1.length : Int))) (chk (decide (0 ≤ w64 (i5_a - (1 : Int)) ∧ w64 (i5_a - (1 : Int)) < (l1.length : Int))) (cond (decide ((l1.getD i5_a.toNat (0 : Int)) ≤ (l1.getD ((w64 (i5_a - (1 : Int))).toNat) (0 : Int)))) (some (7 : Int))
      ((l57a a65 N c0 l1 n (w64 (i5_a + (1 : Int))))))))
      ((l57a a65 N c0 l1 n (w64 (i5_a + (1 : Int))))))))
      (some (0 : Int))
theorem wl57a (a65 : Y65) (N : Nat) (c0 : Int × List (List Int) × Unit) (l1 : List Int) (m : Nat) (i5_a : Int) : R57_0 a65 N (m + 1) (Sl57a c0 l1 i5_a) = cond (decide (i5_a < (l1.length : Int))) (chk (decide (0 ≤ i5_a ∧ i5_a < (l1.length : Int))) ((a65 (l1.getD i5_a.toNat (0 : Int)) (0 : Int) (w64 ((c0.2.1.length : Int) - (1 : Int)))).bind fun r1 =>
      cond (!r1) (some (5 : Int))
      (cond (decide (i5_a > (0 : Int))) (chk (decide (0 ≤ i5_a ∧ i5_a < (l1.length : Int))) (chk (decide (0 ≤ w64 (i5_a - (1 : Int)) ∧ w64 (i5_a - (1 : Int)) < (l1.length : Int))) (cond (decide ((l1.getD i5_a.toNat (0 : Int)) ≤ (l1.getD ((w64 (i5_a - (1 : Int))).toNat) (0 : Int)))) (some (7 : Int))
      ((R57_0 a65 N m (Sl57a c0 l1 (w64 (i5_a + (1 : Int)))))))))
      ((R57_0 a65 N m (Sl57a c0 l1 (w64 (i5_a + (1 : Int)))))))))
      (some (0 : Int)) := by kernel_rfl
theorem ql57a (a65 : Y65) (N : Nat) (c0 : Int × List (List Int) × Unit) (l1 : List Int) : ∀ (m : Nat) (i5_a : Int), R57_0 a65 N m (Sl57a c0 l1 i5_a) = l57a a65 N c0 l1 m i5_a
        | 0, _ => rfl
        | m + 1, i5_a => by rw [wl57a]; simp only [l57a, ql57a a65 N c0 l1 m]
def m57 (a65 : Y65) (N : Nat) (c0 : Int × List (List Int) × Unit) (l1 : List Int) : Option (Int) :=
      cond ((l1.length : Int) == (0 : Int)) (some (1 : Int))
      ((l57a a65 N c0 l1 N (0 : Int)))
theorem wm57 (a65 : Y65) (N : Nat) (c0 : Int × List (List Int) × Unit) (l1 : List Int) : callF (E57 a65) lv57 N en57 c57 (resOf Tryd.f57) 37 [.dv (.pair (.int .i64) (.pair (.sl (.sl (.int .i64))) (.unit))) c0, .dv (.sl (.int .i64)) l1] [] dec57 = cond ((l1.length : Int) == (0 : Int)) (some (1 : Int))
      ((R57_0 a65 N N (Sl57a c0 l1 (0 : Int)))) := by kernel_rfl
theorem k57 (a65 : Y65) (N : Nat) (c0 : Int × List (List Int) × Unit) (l1 : List Int) : callF (E57 a65) lv57 N en57 c57 (resOf Tryd.f57) 37 [.dv (.pair (.int .i64) (.pair (.sl (.sl (.int .i64))) (.unit))) c0, .dv (.sl (.int .i64)) l1] [] dec57 = m57 a65 N c0 l1 := by rw [wm57]; simp only [m57, ql57a]
theorem ok57 (a65 : Y65) (h65 : FnOk Tryd.prog 65 (F65 a65)) (a : Y57) (h : ∀ c0 l1 r, a c0 l1 = some r → (∃ N, m57 a65 N c0 l1 = some r)) : FnOk Tryd.prog 57 (F57 a) := by
  intro args Of x hx
  simp only [F57] at hx
  split at hx
  · rename_i c0 l1
    obtain ⟨N, hN⟩ := h _ _ _ hx
    refine lifted (L := [(65, F65 a65)]) (rc := nrc) (fz := nfz) (fn := Tryd.f57) (by kernel_rfl) (by kernel_rfl) (by kernel_rfl) (by kernel_rfl) rfl ?_ ((k57 a65 N _ _).trans hN) ?_
    · intro p hp; simp only [List.mem_cons, List.not_mem_nil, or_false] at hp; rcases hp with rfl; exact h65
    · intro l o hd
      simp only [dec57] at hd
      split at hd
      · obtain rfl := Option.some.inj hd; exact ⟨rfl, rfl⟩
      · cases hd
  · cases hx
def E19 (a23 : Y23) (a57 : Y57) : Env := mkE TI TY [(23, F23 a23), (57, F57 a57)] nrc nfz
noncomputable def c19 : Code := bodyOf Tryd.f19
def nm19_0 : Norm := ⟨[1, 2, 7, 8], [2], [], []⟩
def nm19_1 : Norm := ⟨[1, 2, 7, 8, 9, 10], [2], [], []⟩
def nm19_2 : Norm := ⟨[1, 2, 7, 8, 9, 10, 11, 12], [2], [], []⟩
def lv19 : Nat → Option Norm := norms [(8, nm19_0), (12, nm19_1), (16, nm19_2)]
def en19 : End := ⟨[], ⟨[67, 68], [], [], []⟩⟩
def dec19 (l : List TV) (o : List (Nat × TO)) : Option (Int × Int) := match l, o with | [.dv (.int .i64) x0, .dv (.int .i64) x1], [] => some (x0, x1) | _, _ => none
def Sl19c (c0 : Int × List (List Int) × Unit) (l1 : List Int) (n7_a : Int) (k8_a : Int) (marks9_b : Int) (m10_b : Int) (found11_c : Bool) (i12_c : Int) : TS := ⟨slots 67 [(1, .dv (.sl (.int .i64)) l1), (2, .ptr 2 0 []), (7, .dv (.int .i64) n7_a), (8, .dv (.int .i64) k8_a), (9, .dv (.int .i64) marks9_b), (10, .dv (.int .i64) m10_b), (11, .dv (.bool) found11_c), (12, .dv (.int .i64) i12_c)], [(2, .row (.pair (.int .i64) (.pair (.sl (.sl (.int .i64))) (.unit))) ([c0] : List Cd))]⟩
def Sl19b (c0 : Int × List (List Int) × Unit) (l1 : List Int) (n7_a : Int) (k8_a : Int) (marks9_b : Int) (m10_b : Int) : TS := ⟨slots 67 [(1, .dv (.sl (.int .i64)) l1), (2, .ptr 2 0 []), (7, .dv (.int .i64) n7_a), (8, .dv (.int .i64) k8_a), (9, .dv (.int .i64) marks9_b), (10, .dv (.int .i64) m10_b)], [(2, .row (.pair (.int .i64) (.pair (.sl (.sl (.int .i64))) (.unit))) ([c0] : List Cd))]⟩
def Sl19a (c0 : Int × List (List Int) × Unit) (l1 : List Int) (n7_a : Int) (k8_a : Int) : TS := ⟨slots 67 [(1, .dv (.sl (.int .i64)) l1), (2, .ptr 2 0 []), (7, .dv (.int .i64) n7_a), (8, .dv (.int .i64) k8_a)], [(2, .row (.pair (.int .i64) (.pair (.sl (.sl (.int .i64))) (.unit))) ([c0] : List Cd))]⟩
noncomputable def K19_0 (a23 : Y23) (a57 : Y57) (N : Nat) : Kont (Int × Int) := kont (E19 a23 a57) lv19 N c19 [1, 1, 1, 1, 1, 0, 1, 0] (fin TI en19 (resOf Tryd.f19) dec19)
noncomputable def R19_0 (a23 : Y23) (a57 : Y57) (N : Nat) (m : Nat) : TS → Option (Int × Int) := loopK (den (E19 a23 a57) lv19 N (sub c19 [1, 1, 1, 1, 1, 0, 1, 0, 0])) (TS.norm nm19_0) (K19_0 a23 a57 N) m
noncomputable def K19_1 (a23 : Y23) (a57 : Y57) (N : Nat) (T19_0 : TS → Option (Int × Int)) : Kont (Int × Int) := kont (E19 a23 a57) lv19 N (sub c19 [1, 1, 1, 1, 1, 0, 1, 0, 0]) [1, 0, 0, 1, 0, 1, 0] (kloop (TS.norm nm19_0) (K19_0 a23 a57 N) T19_0)
noncomputable def R19_1 (a23 : Y23) (a57 : Y57) (N : Nat) (T19_0 : TS → Option (Int × Int)) (m : Nat) : TS → Option (Int × Int) := loopK (den (E19 a23 a57) lv19 N (sub c19 [1, 1, 1, 1, 1, 0, 1, 0, 0, 1, 0, 0, 1, 0, 1, 0, 0])) (TS.norm nm19_1) (K19_1 a23 a57 N T19_0) m
noncomputable def K19_2 (a23 : Y23) (a57 : Y57) (N : Nat) (T19_0 : TS → Option (Int × Int)) (T19_1 : TS → Option (Int × Int)) : Kont (Int × Int) := kont (E19 a23 a57) lv19 N (sub c19 [1, 1, 1, 1, 1, 0, 1, 0, 0, 1, 0, 0, 1, 0, 1, 0, 0]) [1, 0, 0, 1, 0, 1, 0] (kloop (TS.norm nm19_1) (K19_1 a23 a57 N T19_0) T19_1)
noncomputable def R19_2 (a23 : Y23) (a57 : Y57) (N : Nat) (T19_0 : TS → Option (Int × Int)) (T19_1 : TS → Option (Int × Int)) (m : Nat) : TS → Option (Int × Int) := loopK (den (E19 a23 a57) lv19 N (sub c19 [1, 1, 1, 1, 1, 0, 1, 0, 0, 1, 0, 0, 1, 0, 1, 0, 0, 1, 0, 0, 1, 0, 1, 0, 0])) (TS.norm nm19_2) (K19_2 a23 a57 N T19_0 T19_1) m
def l19c (a23 : Y23) (a57 : Y57) (N : Nat) (c0 : Int × List (List Int) × Unit) (l1 : List Int) (n7_a : Int) (k8_a : Int) (marks9_b : Int) (m10_b : Int) (rec_l19b : Int → Int → Option (Int × Int)) : Nat → Bool → Int → Option (Int × Int)
  | 0, _, _ => none
  | n + 1, found11_c, i12_c => cond (decide (i12_c < (l1.length : Int))) (cond (found11_c) ((l19c a23 a57 N c0 l1 n7_a k8_a marks9_b m10_b rec_l19b n true (w64 (i12_c + (1 : Int)))))
      (chk (decide (0 ≤ i12_c ∧ i12_c < (l1.length : Int))) (chk (decide (0 ≤ l1.getD i12_c.toNat (0 : Int) ∧ l1.getD i12_c.toNat (0 : Int) < (c0.2.1.length : Int))) (chk (decide (0 ≤ k8_a ∧ k8_a < ((c0.2.1.getD ((l1.getD i12_c.toNat (0 : Int)).toNat) ([] : List Int)).length : Int))) ((l19c a23 a57 N c0 l1 n7_a k8_a marks9_b m10_b rec_l19b n (((c0.2.1.getD ((l1.getD i12_c.toNat (0 : Int)).toNat) ([] : List Int)).getD k8_a.toNat (0 : Int)) == m10_b) (w64 (i12_c + (1 : Int)))))))))
      (cond (found11_c) ((rec_l19b (w64 (marks9_b + (1 : Int))) (w64 (m10_b + (1 : Int)))))
      ((rec_l19b marks9_b (w64 (m10_b + (1 : Int))))))
theorem wl19c (a23 : Y23) (a57 : Y57) (N : Nat) (c0 : Int × List (List Int) × Unit) (l1 : List Int) (n7_a : Int) (k8_a : Int) (marks9_b : Int) (m10_b : Int) (T19_0 : TS → Option (Int × Int)) (T19_1 : TS → Option (Int × Int)) (m : Nat) (found11_c : Bool) (i12_c : Int) : R19_2 a23 a57 N T19_0 T19_1 (m + 1) (Sl19c c0 l1 n7_a k8_a marks9_b m10_b found11_c i12_c) = cond (decide (i12_c < (l1.length : Int))) (cond (found11_c) ((R19_2 a23 a57 N T19_0 T19_1 m (Sl19c c0 l1 n7_a k8_a marks9_b m10_b true (w64 (i12_c + (1 : Int))))))
      (chk (decide (0 ≤ i12_c ∧ i12_c < (l1.length : Int))) (chk (decide (0 ≤ l1.getD i12_c.toNat (0 : Int) ∧ l1.getD i12_c.toNat (0 : Int) < (c0.2.1.length : Int))) (chk (decide (0 ≤ k8_a ∧ k8_a < ((c0.2.1.getD ((l1.getD i12_c.toNat (0 : Int)).toNat) ([] : List Int)).length : Int))) ((R19_2 a23 a57 N T19_0 T19_1 m (Sl19c c0 l1 n7_a k8_a marks9_b m10_b (((c0.2.1.getD ((l1.getD i12_c.toNat (0 : Int)).toNat) ([] : List Int)).getD k8_a.toNat (0 : Int)) == m10_b) (w64 (i12_c + (1 : Int))))))))))
      (cond (found11_c) ((T19_1 (Sl19b c0 l1 n7_a k8_a (w64 (marks9_b + (1 : Int))) (w64 (m10_b + (1 : Int))))))
      ((T19_1 (Sl19b c0 l1 n7_a k8_a marks9_b (w64 (m10_b + (1 : Int))))))) := by kernel_rfl
theorem ql19c (a23 : Y23) (a57 : Y57) (N : Nat) (c0 : Int × List (List Int) × Unit) (l1 : List Int) (n7_a : Int) (k8_a : Int) (marks9_b : Int) (m10_b : Int) (T19_0 : TS → Option (Int × Int)) (T19_1 : TS → Option (Int × Int)) : ∀ (m : Nat) (found11_c : Bool) (i12_c : Int), R19_2 a23 a57 N T19_0 T19_1 m (Sl19c c0 l1 n7_a k8_a marks9_b m10_b found11_c i12_c) = l19c a23 a57 N c0 l1 n7_a k8_a marks9_b m10_b (fun y0 y1 => T19_1 (Sl19b c0 l1 n7_a k8_a y0 y1)) m found11_c i12_c
        | 0, _, _ => rfl
        | m + 1, found11_c, i12_c => by rw [wl19c]; simp only [l19c, ql19c a23 a57 N c0 l1 n7_a k8_a marks9_b m10_b T19_0 T19_1 m]
def l19b (a23 : Y23) (a57 : Y57) (N : Nat) (c0 : Int × List (List Int) × Unit) (l1 : List Int) (n7_a : Int) (k8_a : Int) (rec_l19a : Int → Int → Option (Int × Int)) : Nat → Int → Int → Option (Int × Int)
  | 0, _, _ => none
  | n + 1, marks9_b, m10_b => cond (decide (m10_b < c0.1)) ((l19c a23 a57 N c0 l1 n7_a k8_a marks9_b m10_b (fun y0 y1 => (l19b a23 a57 N c0 l1 n7_a k8_a rec_l19a n y0 y1)) N false (0 : Int)))
      ((rec_l19a (w64 (n7_a * marks9_b)) (w64 (k8_a + (1 : Int)))))
theorem wl19b (a23 : Y23) (a57 : Y57) (N : Nat) (c0 : Int × List (List Int) × Unit) (l1 : List Int) (n7_a : Int) (k8_a : Int) (T19_0 : TS → Option (Int × Int)) (m : Nat) (marks9_b : Int) (m10_b : Int) : R19_1 a23 a57 N T19_0 (m + 1) (Sl19b c0 l1 n7_a k8_a marks9_b m10_b) = cond (decide (m10_b < c0.1)) ((R19_2 a23 a57 N T19_0 (R19_1 a23 a57 N T19_0 m) N (Sl19c c0 l1 n7_a k8_a marks9_b m10_b false (0 : Int))))
      ((T19_0 (Sl19a c0 l1 (w64 (n7_a * marks9_b)) (w64 (k8_a + (1 : Int)))))) := by kernel_rfl
theorem ql19b (a23 : Y23) (a57 : Y57) (N : Nat) (c0 : Int × List (List Int) × Unit) (l1 : List Int) (n7_a : Int) (k8_a : Int) (T19_0 : TS → Option (Int × Int)) : ∀ (m : Nat) (marks9_b : Int) (m10_b : Int), R19_1 a23 a57 N T19_0 m (Sl19b c0 l1 n7_a k8_a marks9_b m10_b) = l19b a23 a57 N c0 l1 n7_a k8_a (fun y0 y1 => T19_0 (Sl19a c0 l1 y0 y1)) m marks9_b m10_b
        | 0, _, _ => rfl
        | m + 1, marks9_b, m10_b => by rw [wl19b]; simp only [l19b, ql19c, ql19b a23 a57 N c0 l1 n7_a k8_a T19_0 m]
def l19a (a23 : Y23) (a57 : Y57) (N : Nat) (c0 : Int × List (List Int) × Unit) (l1 : List Int) : Nat → Int → Int → Option (Int × Int)
  | 0, _, _ => none
  | n + 1, n7_a, k8_a => chk (decide (0 ≤ (0 : Int) ∧ (0 : Int) < (c0.2.1.length : Int))) (cond (decide (k8_a < ((c0.2.1.getD 0 ([] : List Int)).length : Int))) ((l19b a23 a57 N c0 l1 n7_a k8_a (fun y0 y1 => (l19a a23 a57 N c0 l1 n y0 y1)) N (0 : Int) (0 : Int)))
      (some (n7_a, (0 : Int))))
theorem wl19a (a23 : Y23) (a57 : Y57) (N : Nat) (c0 : Int × List (List Int) × Unit) (l1 : List Int) (m : Nat) (n7_a : Int) (k8_a : Int) : R19_0 a23 a57 N (m + 1) (Sl19a c0 l1 n7_a k8_a) = chk (decide (0 ≤ (0 : Int) ∧ (0 : Int) < (c0.2.1.length : Int))) (cond (decide (k8_a < ((c0.2.1.getD 0 ([] : List Int)).length : Int))) ((R19_1 a23 a57 N (R19_0 a23 a57 N m) N (Sl19b c0 l1 n7_a k8_a (0 : Int) (0 : Int))))
      (some (n7_a, (0 : Int)))) := by kernel_rfl
theorem ql19a (a23 : Y23) (a57 : Y57) (N : Nat) (c0 : Int × List (List Int) × Unit) (l1 : List Int) : ∀ (m : Nat) (n7_a : Int) (k8_a : Int), R19_0 a23 a57 N m (Sl19a c0 l1 n7_a k8_a) = l19a a23 a57 N c0 l1 m n7_a k8_a
        | 0, _, _ => rfl
        | m + 1, n7_a, k8_a => by rw [wl19a]; simp only [l19a, ql19b, ql19a a23 a57 N c0 l1 m]
def m19 (a23 : Y23) (a57 : Y57) (N : Nat) (c0 : Int × List (List Int) × Unit) (l1 : List Int) : Option (Int × Int) :=
      (a23 c0).bind fun r1 =>
      cond (r1 == (0 : Int)) ((a57 c0 l1).bind fun r2 =>
      cond (r2 != (0 : Int)) (some ((0 : Int), r2))
      ((l19a a23 a57 N c0 l1 N (1 : Int) (0 : Int))))
      (cond (r1 != (0 : Int)) (some ((0 : Int), r1))
      ((l19a a23 a57 N c0 l1 N (1 : Int) (0 : Int))))
theorem wm19 (a23 : Y23) (a57 : Y57) (N : Nat) (c0 : Int × List (List Int) × Unit) (l1 : List Int) : callF (E19 a23 a57) lv19 N en19 c19 (resOf Tryd.f19) 65 [.dv (.pair (.int .i64) (.pair (.sl (.sl (.int .i64))) (.unit))) c0, .dv (.sl (.int .i64)) l1] [] dec19 = (a23 c0).bind fun r1 =>
      cond (r1 == (0 : Int)) ((a57 c0 l1).bind fun r2 =>
      cond (r2 != (0 : Int)) (some ((0 : Int), r2))
      ((R19_0 a23 a57 N N (Sl19a c0 l1 (1 : Int) (0 : Int)))))
      (cond (r1 != (0 : Int)) (some ((0 : Int), r1))
      ((R19_0 a23 a57 N N (Sl19a c0 l1 (1 : Int) (0 : Int))))) := by kernel_rfl
theorem k19 (a23 : Y23) (a57 : Y57) (N : Nat) (c0 : Int × List (List Int) × Unit) (l1 : List Int) : callF (E19 a23 a57) lv19 N en19 c19 (resOf Tryd.f19) 65 [.dv (.pair (.int .i64) (.pair (.sl (.sl (.int .i64))) (.unit))) c0, .dv (.sl (.int .i64)) l1] [] dec19 = m19 a23 a57 N c0 l1 := by rw [wm19]; simp only [m19, ql19a]
theorem ok19 (a23 : Y23) (a57 : Y57) (h23 : FnOk Tryd.prog 23 (F23 a23)) (h57 : FnOk Tryd.prog 57 (F57 a57)) (a : Y19) (h : ∀ c0 l1 r, a c0 l1 = some r → (∃ N, m19 a23 a57 N c0 l1 = some r)) : FnOk Tryd.prog 19 (F19 a) := by
  intro args Of x hx
  simp only [F19] at hx
  split at hx
  · rename_i c0 l1
    obtain ⟨N, hN⟩ := h _ _ _ hx
    refine lifted (L := [(23, F23 a23), (57, F57 a57)]) (rc := nrc) (fz := nfz) (fn := Tryd.f19) (by kernel_rfl) (by kernel_rfl) (by kernel_rfl) (by kernel_rfl) rfl ?_ ((k19 a23 a57 N _ _).trans hN) ?_
    · intro p hp; simp only [List.mem_cons, List.not_mem_nil, or_false] at hp; rcases hp with rfl | rfl
      · exact h23
      · exact h57
    · intro l o hd
      simp only [dec19] at hd
      split at hd
      · obtain rfl := Option.some.inj hd; exact ⟨rfl, rfl⟩
      · cases hd
  · cases hx
def E60 (a65 : Y65) : Env := mkE TI TY [(65, F65 a65)] nrc nfz
noncomputable def c60 : Code := bodyOf Tryd.f60
def nm60_0 : Norm := ⟨[1, 2, 5], [2], [], []⟩
def lv60 : Nat → Option Norm := norms [(4, nm60_0)]
def en60 : End := ⟨[], ⟨[29], [], [], []⟩⟩
def dec60 (l : List TV) (o : List (Nat × TO)) : Option (Int) := match l, o with | [.dv (.int .i64) x0], [] => some (x0) | _, _ => none
def Sl60a (c0 : Int × List (List Int) × Unit) (w1 : List Int) (k5_a : Int) : TS := ⟨slots 29 [(1, .dv (.sl (.int .i64)) w1), (2, .ptr 2 0 []), (5, .dv (.int .i64) k5_a)], [(2, .row (.pair (.int .i64) (.pair (.sl (.sl (.int .i64))) (.unit))) ([c0] : List Cd))]⟩
noncomputable def K60_0 (a65 : Y65) (N : Nat) : Kont (Int) := kont (E60 a65) lv60 N c60 [1, 1, 0, 1, 0] (fin TI en60 (resOf Tryd.f60) dec60)
noncomputable def R60_0 (a65 : Y65) (N : Nat) (m : Nat) : TS → Option (Int) := loopK (den (E60 a65) lv60 N (sub c60 [1, 1, 0, 1, 0, 0])) (TS.norm nm60_0) (K60_0 a65 N) m
def l60a (a65 : Y65) (N : Nat) (c0 : Int × List (List Int) × Unit) (w1 : List Int) : Nat → Int → Option (Int)
  | 0, _ => none
  | n + 1, k5_a => cond (decide (k5_a < (w1.length : Int))) (chk (decide (0 ≤ k5_a ∧ k5_a < (w1.length : Int))) ((a65 (w1.getD k5_a.toNat (0 : Int)) (0 : Int) (w64 (c0.1 - (1 : Int)))).bind fun r1 =>
      cond (!r1) (some (4 : Int))
      ((l60a a65 N c0 w1 n (w64 (k5_a + (1 : Int)))))))
      (some (0 : Int))
theorem wl60a (a65 : Y65) (N : Nat) (c0 : Int × List (List Int) × Unit) (w1 : List Int) (m : Nat) (k5_a : Int) : R60_0 a65 N (m + 1) (Sl60a c0 w1 k5_a) = cond (decide (k5_a < (w1.length : Int))) (chk (decide (0 ≤ k5_a ∧ k5_a < (w1.length : Int))) ((a65 (w1.getD k5_a.toNat (0 : Int)) (0 : Int) (w64 (c0.1 - (1 : Int)))).bind fun r1 =>
      cond (!r1) (some (4 : Int))
      ((R60_0 a65 N m (Sl60a c0 w1 (w64 (k5_a + (1 : Int))))))))
      (some (0 : Int)) := by kernel_rfl
theorem ql60a (a65 : Y65) (N : Nat) (c0 : Int × List (List Int) × Unit) (w1 : List Int) : ∀ (m : Nat) (k5_a : Int), R60_0 a65 N m (Sl60a c0 w1 k5_a) = l60a a65 N c0 w1 m k5_a
        | 0, _ => rfl
        | m + 1, k5_a => by rw [wl60a]; simp only [l60a, ql60a a65 N c0 w1 m]
def m60 (a65 : Y65) (N : Nat) (c0 : Int × List (List Int) × Unit) (w1 : List Int) : Option (Int) :=
      chk (decide (0 ≤ (0 : Int) ∧ (0 : Int) < (c0.2.1.length : Int))) (cond ((w1.length : Int) != ((c0.2.1.getD 0 ([] : List Int)).length : Int)) (some (3 : Int))
      ((l60a a65 N c0 w1 N (0 : Int))))
theorem wm60 (a65 : Y65) (N : Nat) (c0 : Int × List (List Int) × Unit) (w1 : List Int) : callF (E60 a65) lv60 N en60 c60 (resOf Tryd.f60) 27 [.dv (.pair (.int .i64) (.pair (.sl (.sl (.int .i64))) (.unit))) c0, .dv (.sl (.int .i64)) w1] [] dec60 = chk (decide (0 ≤ (0 : Int) ∧ (0 : Int) < (c0.2.1.length : Int))) (cond ((w1.length : Int) != ((c0.2.1.getD 0 ([] : List Int)).length : Int)) (some (3 : Int))
      ((R60_0 a65 N N (Sl60a c0 w1 (0 : Int))))) := by kernel_rfl
theorem k60 (a65 : Y65) (N : Nat) (c0 : Int × List (List Int) × Unit) (w1 : List Int) : callF (E60 a65) lv60 N en60 c60 (resOf Tryd.f60) 27 [.dv (.pair (.int .i64) (.pair (.sl (.sl (.int .i64))) (.unit))) c0, .dv (.sl (.int .i64)) w1] [] dec60 = m60 a65 N c0 w1 := by rw [wm60]; simp only [m60, ql60a]
theorem ok60 (a65 : Y65) (h65 : FnOk Tryd.prog 65 (F65 a65)) (a : Y60) (h : ∀ c0 w1 r, a c0 w1 = some r → (∃ N, m60 a65 N c0 w1 = some r)) : FnOk Tryd.prog 60 (F60 a) := by
  intro args Of x hx
  simp only [F60] at hx
  split at hx
  · rename_i c0 w1
    obtain ⟨N, hN⟩ := h _ _ _ hx
    refine lifted (L := [(65, F65 a65)]) (rc := nrc) (fz := nfz) (fn := Tryd.f60) (by kernel_rfl) (by kernel_rfl) (by kernel_rfl) (by kernel_rfl) rfl ?_ ((k60 a65 N _ _).trans hN) ?_
    · intro p hp; simp only [List.mem_cons, List.not_mem_nil, or_false] at hp; rcases hp with rfl; exact h65
    · intro l o hd
      simp only [dec60] at hd
      split at hd
      · obtain rfl := Option.some.inj hd; exact ⟨rfl, rfl⟩
      · cases hd
  · cases hx
def E61 : Env := mkE TI TY [] nrc nfz
noncomputable def c61 : Code := bodyOf Tryd.f61
def nm61_0 : Norm := ⟨[1, 2, 3, 7], [3], [], []⟩
def nm61_1 : Norm := ⟨[1, 2, 3, 7, 8, 9], [3], [], []⟩
def lv61 : Nat → Option Norm := norms [(2, nm61_0), (6, nm61_1)]
def en61 : End := ⟨[], ⟨[43], [], [], []⟩⟩
def dec61 (l : List TV) (o : List (Nat × TO)) : Option (Bool) := match l, o with | [.dv (.bool) x0], [] => some (x0) | _, _ => none
def Sl61b (c0 : Int × List (List Int) × Unit) (l1 : List Int) (w2 : List Int) (k7_a : Int) (found8_b : Bool) (i9_b : Int) : TS := ⟨slots 43 [(1, .dv (.sl (.int .i64)) l1), (2, .dv (.sl (.int .i64)) w2), (3, .ptr 3 0 []), (7, .dv (.int .i64) k7_a), (8, .dv (.bool) found8_b), (9, .dv (.int .i64) i9_b)], [(3, .row (.pair (.int .i64) (.pair (.sl (.sl (.int .i64))) (.unit))) ([c0] : List Cd))]⟩
def Sl61a (c0 : Int × List (List Int) × Unit) (l1 : List Int) (w2 : List Int) (k7_a : Int) : TS := ⟨slots 43 [(1, .dv (.sl (.int .i64)) l1), (2, .dv (.sl (.int .i64)) w2), (3, .ptr 3 0 []), (7, .dv (.int .i64) k7_a)], [(3, .row (.pair (.int .i64) (.pair (.sl (.sl (.int .i64))) (.unit))) ([c0] : List Cd))]⟩
noncomputable def K61_0 (N : Nat) : Kont (Bool) := kont (E61) lv61 N c61 [1, 0, 1, 0] (fin TI en61 (resOf Tryd.f61) dec61)
noncomputable def R61_0 (N : Nat) (m : Nat) : TS → Option (Bool) := loopK (den (E61) lv61 N (sub c61 [1, 0, 1, 0, 0])) (TS.norm nm61_0) (K61_0 N) m
noncomputable def K61_1 (N : Nat) (T61_0 : TS → Option (Bool)) : Kont (Bool) := kont (E61) lv61 N (sub c61 [1, 0, 1, 0, 0]) [1, 0, 0, 1, 0, 1, 0] (kloop (TS.norm nm61_0) (K61_0 N) T61_0)
noncomputable def R61_1 (N : Nat) (T61_0 : TS → Option (Bool)) (m : Nat) : TS → Option (Bool) := loopK (den (E61) lv61 N (sub c61 [1, 0, 1, 0, 0, 1, 0, 0, 1, 0, 1, 0, 0])) (TS.norm nm61_1) (K61_1 N T61_0) m
def l61b (N : Nat) (c0 : Int × List (List Int) × Unit) (l1 : List Int) (w2 : List Int) (k7_a : Int) (rec_l61a : Int → Option (Bool)) : Nat → Bool → Int → Option (Bool)
  | 0, _, _ => none
  | n + 1, found8_b, i9_b => cond (decide (i9_b < (l1.length : Int))) (cond (found8_b) ((l61b N c0 l1 w2 k7_a rec_l61a n true (w64 (i9_b + (1 : Int)))))
      (chk (decide (0 ≤ i9_b ∧ i9_b < (l1.length : Int))) (chk (decide (0 ≤ l1.getD i9_b.toNat (0 : Int) ∧ l1.getD i9_b.toNat (0 : Int) < (c0.2.1.length : Int))) (chk (decide (0 ≤ k7_a ∧ k7_a < ((c0.2.1.getD ((l1.getD i9_b.toNat (0 : Int)).toNat) ([] : List Int)).length : Int))) (chk (decide (0 ≤ k7_a ∧ k7_a < (w2.length : Int))) ((l61b N c0 l1 w2 k7_a rec_l61a n (((c0.2.1.getD ((l1.getD i9_b.toNat (0 : Int)).toNat) ([] : List Int)).getD k7_a.toNat (0 : Int)) == (w2.getD k7_a.toNat (0 : Int))) (w64 (i9_b + (1 : Int))))))))))
      (cond (!found8_b) (some false)
      ((rec_l61a (w64 (k7_a + (1 : Int))))))
theorem wl61b (N : Nat) (c0 : Int × List (List Int) × Unit) (l1 : List Int) (w2 : List Int) (k7_a : Int) (T61_0 : TS → Option (Bool)) (m : Nat) (found8_b : Bool) (i9_b : Int) : R61_1 N T61_0 (m + 1) (Sl61b c0 l1 w2 k7_a found8_b i9_b) = cond (decide (i9_b < (l1.length : Int))) (cond (found8_b) ((R61_1 N T61_0 m (Sl61b c0 l1 w2 k7_a true (w64 (i9_b + (1 : Int))))))
      (chk (decide (0 ≤ i9_b ∧ i9_b < (l1.length : Int))) (chk (decide (0 ≤ l1.getD i9_b.toNat (0 : Int) ∧ l1.getD i9_b.toNat (0 : Int) < (c0.2.1.length : Int))) (chk (decide (0 ≤ k7_a ∧ k7_a < ((c0.2.1.getD ((l1.getD i9_b.toNat (0 : Int)).toNat) ([] : List Int)).length : Int))) (chk (decide (0 ≤ k7_a ∧ k7_a < (w2.length : Int))) ((R61_1 N T61_0 m (Sl61b c0 l1 w2 k7_a (((c0.2.1.getD ((l1.getD i9_b.toNat (0 : Int)).toNat) ([] : List Int)).getD k7_a.toNat (0 : Int)) == (w2.getD k7_a.toNat (0 : Int))) (w64 (i9_b + (1 : Int)))))))))))
      (cond (!found8_b) (some false)
      ((T61_0 (Sl61a c0 l1 w2 (w64 (k7_a + (1 : Int))))))) := by kernel_rfl
theorem ql61b (N : Nat) (c0 : Int × List (List Int) × Unit) (l1 : List Int) (w2 : List Int) (k7_a : Int) (T61_0 : TS → Option (Bool)) : ∀ (m : Nat) (found8_b : Bool) (i9_b : Int), R61_1 N T61_0 m (Sl61b c0 l1 w2 k7_a found8_b i9_b) = l61b N c0 l1 w2 k7_a (fun y0 => T61_0 (Sl61a c0 l1 w2 y0)) m found8_b i9_b
        | 0, _, _ => rfl
        | m + 1, found8_b, i9_b => by rw [wl61b]; simp only [l61b, ql61b N c0 l1 w2 k7_a T61_0 m]
def l61a (N : Nat) (c0 : Int × List (List Int) × Unit) (l1 : List Int) (w2 : List Int) : Nat → Int → Option (Bool)
  | 0, _ => none
  | n + 1, k7_a => cond (decide (k7_a < (w2.length : Int))) ((l61b N c0 l1 w2 k7_a (fun y0 => (l61a N c0 l1 w2 n y0)) N false (0 : Int)))
      (some true)
theorem wl61a (N : Nat) (c0 : Int × List (List Int) × Unit) (l1 : List Int) (w2 : List Int) (m : Nat) (k7_a : Int) : R61_0 N (m + 1) (Sl61a c0 l1 w2 k7_a) = cond (decide (k7_a < (w2.length : Int))) ((R61_1 N (R61_0 N m) N (Sl61b c0 l1 w2 k7_a false (0 : Int))))
      (some true) := by kernel_rfl
theorem ql61a (N : Nat) (c0 : Int × List (List Int) × Unit) (l1 : List Int) (w2 : List Int) : ∀ (m : Nat) (k7_a : Int), R61_0 N m (Sl61a c0 l1 w2 k7_a) = l61a N c0 l1 w2 m k7_a
        | 0, _ => rfl
        | m + 1, k7_a => by rw [wl61a]; simp only [l61a, ql61b, ql61a N c0 l1 w2 m]
def m61 (N : Nat) (c0 : Int × List (List Int) × Unit) (l1 : List Int) (w2 : List Int) : Option (Bool) :=
      (l61a N c0 l1 w2 N (0 : Int))
theorem wm61 (N : Nat) (c0 : Int × List (List Int) × Unit) (l1 : List Int) (w2 : List Int) : callF (E61) lv61 N en61 c61 (resOf Tryd.f61) 40 [.dv (.pair (.int .i64) (.pair (.sl (.sl (.int .i64))) (.unit))) c0, .dv (.sl (.int .i64)) l1, .dv (.sl (.int .i64)) w2] [] dec61 = (R61_0 N N (Sl61a c0 l1 w2 (0 : Int))) := by kernel_rfl
theorem k61 (N : Nat) (c0 : Int × List (List Int) × Unit) (l1 : List Int) (w2 : List Int) : callF (E61) lv61 N en61 c61 (resOf Tryd.f61) 40 [.dv (.pair (.int .i64) (.pair (.sl (.sl (.int .i64))) (.unit))) c0, .dv (.sl (.int .i64)) l1, .dv (.sl (.int .i64)) w2] [] dec61 = m61 N c0 l1 w2 := by rw [wm61]; simp only [m61, ql61a]
theorem ok61 (a : Y61) (h : ∀ c0 l1 w2 r, a c0 l1 w2 = some r → (∃ N, m61 N c0 l1 w2 = some r)) : FnOk Tryd.prog 61 (F61 a) := by
  intro args Of x hx
  simp only [F61] at hx
  split at hx
  · rename_i c0 l1 w2
    obtain ⟨N, hN⟩ := h _ _ _ _ hx
    refine lifted (L := []) (rc := nrc) (fz := nfz) (fn := Tryd.f61) (by kernel_rfl) (by kernel_rfl) (by kernel_rfl) (by kernel_rfl) rfl ?_ ((k61 N _ _ _).trans hN) ?_
    · intro p hp; cases hp
    · intro l o hd
      simp only [dec61] at hd
      split at hd
      · obtain rfl := Option.some.inj hd; exact ⟨rfl, rfl⟩
      · cases hd
  · cases hx
def E21 (a23 : Y23) (a57 : Y57) (a60 : Y60) (a61 : Y61) : Env := mkE TI TY [(23, F23 a23), (57, F57 a57), (60, F60 a60), (61, F61 a61)] nrc nfz
noncomputable def c21 : Code := bodyOf Tryd.f21
def lv21 : Nat → Option Norm := norms []
def en21 : End := ⟨[], ⟨[30], [], [], []⟩⟩
def dec21 (l : List TV) (o : List (Nat × TO)) : Option (Int) := match l, o with | [.dv (.int .i64) x0], [] => some (x0) | _, _ => none
def m21 (a23 : Y23) (a57 : Y57) (a60 : Y60) (a61 : Y61) (N : Nat) (c0 : Int × List (List Int) × Unit) (l1 : List Int) (w2 : List Int) : Option (Int) :=
      (a23 c0).bind fun r1 =>
      cond (r1 == (0 : Int)) ((a57 c0 l1).bind fun r2 =>
      cond (r2 == (0 : Int)) ((a60 c0 w2).bind fun r3 =>
      cond (r3 == (0 : Int)) ((a61 c0 l1 w2).bind fun r4 =>
      cond (!r4) (some (13 : Int))
      (some r3))
      (some r3))
      (cond (r2 == (0 : Int)) ((a61 c0 l1 w2).bind fun r5 =>
      cond (!r5) (some (13 : Int))
      (some r2))
      (some r2)))
      (cond (r1 == (0 : Int)) ((a60 c0 w2).bind fun r6 =>
      cond (r6 == (0 : Int)) ((a61 c0 l1 w2).bind fun r7 =>
      cond (!r7) (some (13 : Int))
      (some r6))
      (some r6))
      (cond (r1 == (0 : Int)) ((a61 c0 l1 w2).bind fun r8 =>
      cond (!r8) (some (13 : Int))
      (some r1))
      (some r1)))
theorem k21 (a23 : Y23) (a57 : Y57) (a60 : Y60) (a61 : Y61) (N : Nat) (c0 : Int × List (List Int) × Unit) (l1 : List Int) (w2 : List Int) : callF (E21 a23 a57 a60 a61) lv21 N en21 c21 (resOf Tryd.f21) 27 [.dv (.pair (.int .i64) (.pair (.sl (.sl (.int .i64))) (.unit))) c0, .dv (.sl (.int .i64)) l1, .dv (.sl (.int .i64)) w2] [] dec21 = m21 a23 a57 a60 a61 N c0 l1 w2 := by kernel_rfl
theorem ok21 (a23 : Y23) (a57 : Y57) (a60 : Y60) (a61 : Y61) (h23 : FnOk Tryd.prog 23 (F23 a23)) (h57 : FnOk Tryd.prog 57 (F57 a57)) (h60 : FnOk Tryd.prog 60 (F60 a60)) (h61 : FnOk Tryd.prog 61 (F61 a61)) (a : Y21) (h : ∀ c0 l1 w2 r, a c0 l1 w2 = some r → (∃ N, m21 a23 a57 a60 a61 N c0 l1 w2 = some r)) : FnOk Tryd.prog 21 (F21 a) := by
  intro args Of x hx
  simp only [F21] at hx
  split at hx
  · rename_i c0 l1 w2
    obtain ⟨N, hN⟩ := h _ _ _ _ hx
    refine lifted (L := [(23, F23 a23), (57, F57 a57), (60, F60 a60), (61, F61 a61)]) (rc := nrc) (fz := nfz) (fn := Tryd.f21) (by kernel_rfl) (by kernel_rfl) (by kernel_rfl) (by kernel_rfl) rfl ?_ ((k21 a23 a57 a60 a61 N _ _ _).trans hN) ?_
    · intro p hp; simp only [List.mem_cons, List.not_mem_nil, or_false] at hp; rcases hp with rfl | rfl | rfl | rfl
      · exact h23
      · exact h57
      · exact h60
      · exact h61
    · intro l o hd
      simp only [dec21] at hd
      split at hd
      · obtain rfl := Option.some.inj hd; exact ⟨rfl, rfl⟩
      · cases hd
  · cases hx
end Go.Proofs.YtbjfbbfglkmadaaDoor
