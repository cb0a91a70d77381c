/-
  Functions 25, 71, 72, 27, 29, 31, told as plain functions.
-/
import Derived.Test.YtbjfbbfglkmadaaDoorQFI
namespace Go.Proofs.YtbjfbbfglkmadaaDoor
open Go.RowKit
set_option linter.unusedVariables false
def E25 (a23 : Y23) (a60 : Y60) (a61 : Y61) (a69 : Y69) : Env := mkE TI TY [(23, F23 a23), (60, F60 a60), (61, F61 a61), (69, F69 a69)] nrc nfz
noncomputable def c25 : Code := bodyOf Tryd.f25
def nm25_0 : Norm := ⟨[1, 2, 7, 8, 9], [2], [], [(7, .sl (.int .i64))]⟩
def lv25 : Nat → Option Norm := norms [(9, nm25_0)]
def en25 : End := ⟨[(58, .sl (.int .i64))], ⟨[58, 59], [], [], []⟩⟩
def dec25 (l : List TV) (o : List (Nat × TO)) : Option (List Int × Int) := match l, o with | [.dv (.sl (.int .i64)) x0, .dv (.int .i64) x1], [] => some (x0, x1) | _, _ => none
def Sl25a (c0 : Int × List (List Int) × Unit) (w1 : List Int) (best7_a : List Int) (l8_a : List (List Int)) (i9_a : Int) : TS := ⟨slots 58 [(1, .dv (.sl (.int .i64)) w1), (2, .ptr 2 0 []), (7, .dv (.sl (.int .i64)) best7_a), (8, .dv (.sl (.sl (.int .i64))) l8_a), (9, .dv (.int .i64) i9_a)], [(2, .row (.pair (.int .i64) (.pair (.sl (.sl (.int .i64))) (.unit))) ([c0] : List Cd))]⟩
noncomputable def K25_0 (a23 : Y23) (a60 : Y60) (a61 : Y61) (a69 : Y69) (N : Nat) : Kont (List Int × Int) := kont (E25 a23 a60 a61 a69) lv25 N c25 [1, 1, 1, 1, 1, 1, 0, 1, 0] (fin TI en25 (resOf Tryd.f25) dec25)
noncomputable def R25_0 (a23 : Y23) (a60 : Y60) (a61 : Y61) (a69 : Y69) (N : Nat) (m : Nat) : TS → Option (List Int × Int) := loopK (den (E25 a23 a60 a61 a69) lv25 N (sub c25 [1, 1, 1, 1, 1, 1, 0, 1, 0, 0])) (TS.norm nm25_0) (K25_0 a23 a60 a61 a69 N) m
def l25a (a23 : Y23) (a60 : Y60) (a61 : Y61) (a69 : Y69) (N : Nat) (c0 : Int × List (List Int) × Unit) (w1 : List Int) : Nat → (List Int) → (List (List Int)) → Int → Option (List Int × Int)
  | 0, _, _, _ => none
  | n + 1, best7_a, l8_a, i9_a => cond (decide (i9_a < (l8_a.length : Int))) (chk (decide (0 ≤ i9_a ∧ i9_a < (l8_a.length : Int))) ((a61 c0 (l8_a.getD i9_a.toNat ([] : List Int)) w1).bind fun r4 =>
      cond (r4) (cond ((best7_a.length : Int) == (0 : Int)) (chk (decide (0 ≤ i9_a ∧ i9_a < (l8_a.length : Int))) ((l25a a23 a60 a61 a69 N c0 w1 n (l8_a.getD i9_a.toNat ([] : List Int)) l8_a (w64 (i9_a + (1 : Int))))))
      (chk (decide (0 ≤ i9_a ∧ i9_a < (l8_a.length : Int))) (cond (decide (((l8_a.getD i9_a.toNat ([] : List Int)).length : Int) < (best7_a.length : Int))) (chk (decide (0 ≤ i9_a ∧ i9_a < (l8_a.length : Int))) ((l25a a23 a60 a61 a69 N c0 w1 n (l8_a.getD i9_a.toNat ([] : List Int)) l8_a (w64 (i9_a + (1 : Int))))))
      ((l25a a23 a60 a61 a69 N c0 w1 n best7_a l8_a (w64 (i9_a + (1 : Int))))))))
      ((l25a a23 a60 a61 a69 N c0 w1 n best7_a l8_a (w64 (i9_a + (1 : Int)))))))
      (cond ((best7_a.length : Int) == (0 : Int)) (some (([] : List Int), (14 : Int)))
      (some (best7_a, (0 : Int))))
theorem wl25a (a23 : Y23) (a60 : Y60) (a61 : Y61) (a69 : Y69) (N : Nat) (c0 : Int × List (List Int) × Unit) (w1 : List Int) (m : Nat) (best7_a : List Int) (l8_a : List (List Int)) (i9_a : Int) : R25_0 a23 a60 a61 a69 N (m + 1) (Sl25a c0 w1 best7_a l8_a i9_a) = cond (decide (i9_a < (l8_a.length : Int))) (chk (decide (0 ≤ i9_a ∧ i9_a < (l8_a.length : Int))) ((a61 c0 (l8_a.getD i9_a.toNat ([] : List Int)) w1).bind fun r4 =>
      cond (r4) (cond ((best7_a.length : Int) == (0 : Int)) (chk (decide (0 ≤ i9_a ∧ i9_a < (l8_a.length : Int))) ((R25_0 a23 a60 a61 a69 N m (Sl25a c0 w1 (l8_a.getD i9_a.toNat ([] : List Int)) l8_a (w64 (i9_a + (1 : Int)))))))
      (chk (decide (0 ≤ i9_a ∧ i9_a < (l8_a.length : Int))) (cond (decide (((l8_a.getD i9_a.toNat ([] : List Int)).length : Int) < (best7_a.length : Int))) (chk (decide (0 ≤ i9_a ∧ i9_a < (l8_a.length : Int))) ((R25_0 a23 a60 a61 a69 N m (Sl25a c0 w1 (l8_a.getD i9_a.toNat ([] : List Int)) l8_a (w64 (i9_a + (1 : Int)))))))
      ((R25_0 a23 a60 a61 a69 N m (Sl25a c0 w1 best7_a l8_a (w64 (i9_a + (1 : Int)))))))))
      ((R25_0 a23 a60 a61 a69 N m (Sl25a c0 w1 best7_a l8_a (w64 (i9_a + (1 : Int))))))))
      (cond ((best7_a.length : Int) == (0 : Int)) (some (([] : List Int), (14 : Int)))
      (some (best7_a, (0 : Int)))) := by kernel_rfl
theorem ql25a (a23 : Y23) (a60 : Y60) (a61 : Y61) (a69 : Y69) (N : Nat) (c0 : Int × List (List Int) × Unit) (w1 : List Int) : ∀ (m : Nat) (best7_a : List Int) (l8_a : List (List Int)) (i9_a : Int), R25_0 a23 a60 a61 a69 N m (Sl25a c0 w1 best7_a l8_a i9_a) = l25a a23 a60 a61 a69 N c0 w1 m best7_a l8_a i9_a
        | 0, _, _, _ => rfl
        | m + 1, best7_a, l8_a, i9_a => by rw [wl25a]; simp only [l25a, ql25a a23 a60 a61 a69 N c0 w1 m]
def m25 (a23 : Y23) (a60 : Y60) (a61 : Y61) (a69 : Y69) (N : Nat) (c0 : Int × List (List Int) × Unit) (w1 : List Int) : Option (List Int × Int) :=
      (a23 c0).bind fun r1 =>
      cond (r1 == (0 : Int)) ((a60 c0 w1).bind fun r2 =>
      cond (r2 != (0 : Int)) (some (([] : List Int), r2))
      ((a69 c0 (10 : Int)).bind fun r3 =>
      (l25a a23 a60 a61 a69 N c0 w1 N ([] : List Int) r3 (0 : Int))))
      (cond (r1 != (0 : Int)) (some (([] : List Int), r1))
      ((a69 c0 (10 : Int)).bind fun r5 =>
      (l25a a23 a60 a61 a69 N c0 w1 N ([] : List Int) r5 (0 : Int))))
theorem wm25 (a23 : Y23) (a60 : Y60) (a61 : Y61) (a69 : Y69) (N : Nat) (c0 : Int × List (List Int) × Unit) (w1 : List Int) : callF (E25 a23 a60 a61 a69) lv25 N en25 c25 (resOf Tryd.f25) 56 [.dv (.pair (.int .i64) (.pair (.sl (.sl (.int .i64))) (.unit))) c0, .dv (.sl (.int .i64)) w1] [] dec25 = (a23 c0).bind fun r1 =>
      cond (r1 == (0 : Int)) ((a60 c0 w1).bind fun r2 =>
      cond (r2 != (0 : Int)) (some (([] : List Int), r2))
      ((a69 c0 (10 : Int)).bind fun r3 =>
      (R25_0 a23 a60 a61 a69 N N (Sl25a c0 w1 ([] : List Int) r3 (0 : Int)))))
      (cond (r1 != (0 : Int)) (some (([] : List Int), r1))
      ((a69 c0 (10 : Int)).bind fun r5 =>
      (R25_0 a23 a60 a61 a69 N N (Sl25a c0 w1 ([] : List Int) r5 (0 : Int))))) := by kernel_rfl
theorem k25 (a23 : Y23) (a60 : Y60) (a61 : Y61) (a69 : Y69) (N : Nat) (c0 : Int × List (List Int) × Unit) (w1 : List Int) : callF (E25 a23 a60 a61 a69) lv25 N en25 c25 (resOf Tryd.f25) 56 [.dv (.pair (.int .i64) (.pair (.sl (.sl (.int .i64))) (.unit))) c0, .dv (.sl (.int .i64)) w1] [] dec25 = m25 a23 a60 a61 a69 N c0 w1 := by rw [wm25]; simp only [m25, ql25a]
theorem ok25 (a23 : Y23) (a60 : Y60) (a61 : Y61) (a69 : Y69) (h23 : FnOk Tryd.prog 23 (F23 a23)) (h60 : FnOk Tryd.prog 60 (F60 a60)) (h61 : FnOk Tryd.prog 61 (F61 a61)) (h69 : FnOk Tryd.prog 69 (F69 a69)) (a : Y25) (h : ∀ c0 w1 r, a c0 w1 = some r → (∃ N, m25 a23 a60 a61 a69 N c0 w1 = some r)) : FnOk Tryd.prog 25 (F25 a) := by
  intro args Of x hx
  simp only [F25] at hx
  split at hx
  · rename_i c0 w1
    obtain ⟨N, hN⟩ := h _ _ _ hx
    refine lifted (L := [(23, F23 a23), (60, F60 a60), (61, F61 a61), (69, F69 a69)]) (rc := nrc) (fz := nfz) (fn := Tryd.f25) (by kernel_rfl) (by kernel_rfl) (by kernel_rfl) (by kernel_rfl) rfl ?_ ((k25 a23 a60 a61 a69 N _ _).trans hN) ?_
    · intro p hp; simp only [List.mem_cons, List.not_mem_nil, or_false] at hp; rcases hp with rfl | rfl | rfl | rfl
      · exact h23
      · exact h60
      · exact h61
      · exact h69
    · intro l o hd
      simp only [dec25] at hd
      split at hd
      · obtain rfl := Option.some.inj hd; exact ⟨rfl, rfl⟩
      · cases hd
  · cases hx
def E71 (a23 : Y23) (a60 : Y60) (a65 : Y65) : Env := mkE TI TY [(23, F23 a23), (60, F60 a60), (65, F65 a65)] nrc nfz
noncomputable def c71 : Code := bodyOf Tryd.f71
def lv71 : Nat → Option Norm := norms []
def en71 : End := ⟨[], ⟨[23], [], [], []⟩⟩
def dec71 (l : List TV) (o : List (Nat × TO)) : Option (Int) := match l, o with | [.dv (.int .i64) x0], [] => some (x0) | _, _ => none
def m71 (a23 : Y23) (a60 : Y60) (a65 : Y65) (N : Nat) (c0 : Int × List (List Int) × Unit) (w1 : List Int) (size2 : Int) : Option (Int) :=
      (a23 c0).bind fun r1 =>
      cond (r1 == (0 : Int)) ((a60 c0 w1).bind fun r2 =>
      cond (r2 == (0 : Int)) ((a65 size2 (1 : Int) (10 : Int)).bind fun r3 =>
      cond (!r3) (some (4 : Int))
      (some r2))
      (some r2))
      (cond (r1 == (0 : Int)) ((a65 size2 (1 : Int) (10 : Int)).bind fun r4 =>
      cond (!r4) (some (4 : Int))
      (some r1))
      (some r1))
theorem k71 (a23 : Y23) (a60 : Y60) (a65 : Y65) (N : Nat) (c0 : Int × List (List Int) × Unit) (w1 : List Int) (size2 : Int) : callF (E71 a23 a60 a65) lv71 N en71 c71 (resOf Tryd.f71) 20 [.dv (.pair (.int .i64) (.pair (.sl (.sl (.int .i64))) (.unit))) c0, .dv (.sl (.int .i64)) w1, .dv (.int .i64) size2] [] dec71 = m71 a23 a60 a65 N c0 w1 size2 := by kernel_rfl
theorem ok71 (a23 : Y23) (a60 : Y60) (a65 : Y65) (h23 : FnOk Tryd.prog 23 (F23 a23)) (h60 : FnOk Tryd.prog 60 (F60 a60)) (h65 : FnOk Tryd.prog 65 (F65 a65)) (a : Y71) (h : ∀ c0 w1 size2 r, a c0 w1 size2 = some r → (∃ N, m71 a23 a60 a65 N c0 w1 size2 = some r)) : FnOk Tryd.prog 71 (F71 a) := by
  intro args Of x hx
  simp only [F71] at hx
  split at hx
  · rename_i c0 w1 size2
    obtain ⟨N, hN⟩ := h _ _ _ _ hx
    refine lifted (L := [(23, F23 a23), (60, F60 a60), (65, F65 a65)]) (rc := nrc) (fz := nfz) (fn := Tryd.f71) (by kernel_rfl) (by kernel_rfl) (by kernel_rfl) (by kernel_rfl) rfl ?_ ((k71 a23 a60 a65 N _ _ _).trans hN) ?_
    · intro p hp; simp only [List.mem_cons, List.not_mem_nil, or_false] at hp; rcases hp with rfl | rfl | rfl
      · exact h23
      · exact h60
      · exact h65
    · intro l o hd
      simp only [dec71] at hd
      split at hd
      · obtain rfl := Option.some.inj hd; exact ⟨rfl, rfl⟩
      · cases hd
  · cases hx
def E72 : Env := mkE TI TY [] nrc nfz
noncomputable def c72 : Code := bodyOf Tryd.f72
def lv72 : Nat → Option Norm := norms []
def en72 : End := ⟨[(15, .sl (.int .i64))], ⟨[15], [], [], []⟩⟩
def dec72 (l : List TV) (o : List (Nat × TO)) : Option (List Int) := match l, o with | [.dv (.sl (.int .i64)) x0], [] => some (x0) | _, _ => none
def m72 (N : Nat) (l0 : List Int) (i1 : Int) : Option (List Int) :=
      chk (decide (0 ≤ i1 ∧ i1 ≤ (l0.length : Int))) (chk (small (0 + (l0.take i1.toNat).length) 8) (chk (decide (0 ≤ w64 (i1 + (1 : Int)) ∧ w64 (i1 + (1 : Int)) ≤ (l0.length : Int))) (chk (small ((([] : List Int) ++ (l0.take i1.toNat)).length + (l0.drop ((w64 (i1 + (1 : Int))).toNat)).length) 8) (some ((([] : List Int) ++ (l0.take i1.toNat)) ++ (l0.drop ((w64 (i1 + (1 : Int))).toNat)))))))
theorem k72 (N : Nat) (l0 : List Int) (i1 : Int) : callF (E72) lv72 N en72 c72 (resOf Tryd.f72) 13 [.dv (.sl (.int .i64)) l0, .dv (.int .i64) i1] [] dec72 = m72 N l0 i1 := by kernel_rfl
theorem ok72 (a : Y72) (h : ∀ l0 i1 r, a l0 i1 = some r → (∃ N, m72 N l0 i1 = some r)) : FnOk Tryd.prog 72 (F72 a) := by
  intro args Of x hx
  simp only [F72] at hx
  split at hx
  · rename_i l0 i1
    obtain ⟨N, hN⟩ := h _ _ _ hx
    refine lifted (L := []) (rc := nrc) (fz := nfz) (fn := Tryd.f72) (by kernel_rfl) (by kernel_rfl) (by kernel_rfl) (by kernel_rfl) rfl ?_ ((k72 N _ _).trans hN) ?_
    · intro p hp; cases hp
    · intro l o hd
      simp only [dec72] at hd
      split at hd
      · obtain rfl := Option.some.inj hd; exact ⟨rfl, rfl⟩
      · cases hd
  · cases hx
def E27 (a61 : Y61) (a69 : Y69) (a71 : Y71) (a72 : Y72) : Env := mkE TI TY [(61, F61 a61), (69, F69 a69), (71, F71 a71), (72, F72 a72)] nrc nfz
noncomputable def c27 : Code := bodyOf Tryd.f27
def nm27_0 : Norm := ⟨[1, 3, 10, 11], [3], [(.slot 9, 1009, .sl (.int .i64))], []⟩
def nm27_1 : Norm := ⟨[1, 3, 9, 10, 11, 12, 13], [3, 1009], [], []⟩
def lv27 : Nat → Option Norm := norms [(7, nm27_0), (11, nm27_1)]
def en27 : End := ⟨[(68, .sl (.sl (.int .i64)))], ⟨[68, 69], [], [], []⟩⟩
def dec27 (l : List TV) (o : List (Nat × TO)) : Option (List (List Int) × Int) := match l, o with | [.dv (.sl (.sl (.int .i64))) x0, .dv (.int .i64) x1], [] => some (x0, x1) | _, _ => none
def Sl27b (c0 : Int × List (List Int) × Unit) (w1 : List Int) (r2 : List (List Int)) (i11_a : Int) (out9_a : List (List Int)) (lean12_b : Bool) (k13_b : Int) : TS := ⟨slots 68 [(1, .dv (.sl (.int .i64)) w1), (3, .ptr 3 0 []), (9, .row 1009), (10, .dv (.sl (.sl (.int .i64))) r2), (11, .dv (.int .i64) i11_a), (12, .dv (.bool) lean12_b), (13, .dv (.int .i64) k13_b)], [(3, .row (.pair (.int .i64) (.pair (.sl (.sl (.int .i64))) (.unit))) ([c0] : List Cd)), (1009, .row (.sl (.int .i64)) out9_a)]⟩
def Sl27a (c0 : Int × List (List Int) × Unit) (w1 : List Int) (r2 : List (List Int)) (i11_a : Int) (out9_a : List (List Int)) : TS := ⟨slots 68 [(1, .dv (.sl (.int .i64)) w1), (3, .ptr 3 0 []), (9, .row 1009), (10, .dv (.sl (.sl (.int .i64))) r2), (11, .dv (.int .i64) i11_a)], [(1009, .row (.sl (.int .i64)) out9_a), (3, .row (.pair (.int .i64) (.pair (.sl (.sl (.int .i64))) (.unit))) ([c0] : List Cd))]⟩
noncomputable def K27_0 (a61 : Y61) (a69 : Y69) (a71 : Y71) (a72 : Y72) (N : Nat) : Kont (List (List Int) × Int) := kont (E27 a61 a69 a71 a72) lv27 N c27 [1, 1, 1, 1, 1, 0, 1, 0] (fin TI en27 (resOf Tryd.f27) dec27)
noncomputable def R27_0 (a61 : Y61) (a69 : Y69) (a71 : Y71) (a72 : Y72) (N : Nat) (m : Nat) : TS → Option (List (List Int) × Int) := loopK (den (E27 a61 a69 a71 a72) lv27 N (sub c27 [1, 1, 1, 1, 1, 0, 1, 0, 0])) (TS.norm nm27_0) (K27_0 a61 a69 a71 a72 N) m
noncomputable def K27_1 (a61 : Y61) (a69 : Y69) (a71 : Y71) (a72 : Y72) (N : Nat) (T27_0 : TS → Option (List (List Int) × Int)) : Kont (List (List Int) × Int) := kont (E27 a61 a69 a71 a72) lv27 N (sub c27 [1, 1, 1, 1, 1, 0, 1, 0, 0]) [1, 0, 0, 1, 0, 1, 0] (kloop (TS.norm nm27_0) (K27_0 a61 a69 a71 a72 N) T27_0)
noncomputable def R27_1 (a61 : Y61) (a69 : Y69) (a71 : Y71) (a72 : Y72) (N : Nat) (T27_0 : TS → Option (List (List Int) × Int)) (m : Nat) : TS → Option (List (List Int) × Int) := loopK (den (E27 a61 a69 a71 a72) lv27 N (sub c27 [1, 1, 1, 1, 1, 0, 1, 0, 0, 1, 0, 0, 1, 0, 1, 0, 0])) (TS.norm nm27_1) (K27_1 a61 a69 a71 a72 N T27_0) m
def l27b (a61 : Y61) (a69 : Y69) (a71 : Y71) (a72 : Y72) (N : Nat) (c0 : Int × List (List Int) × Unit) (w1 : List Int) (r2 : List (List Int)) (i11_a : Int) (out9_a : List (List Int)) (rec_l27a : Int → (List (List Int)) → Option (List (List Int) × Int)) : Nat → Bool → Int → Option (List (List Int) × Int)
  | 0, _, _ => none
  | n + 1, lean12_b, k13_b => chk (decide (0 ≤ i11_a ∧ i11_a < (r2.length : Int))) (cond (decide (k13_b < ((r2.getD i11_a.toNat ([] : List Int)).length : Int))) (cond (lean12_b) (chk (decide (0 ≤ i11_a ∧ i11_a < (r2.length : Int))) ((a72 (r2.getD i11_a.toNat ([] : List Int)) k13_b).bind fun r4 =>
      (a61 c0 r4 w1).bind fun r5 =>
      (l27b a61 a69 a71 a72 N c0 w1 r2 i11_a out9_a rec_l27a n (!r5) (w64 (k13_b + (1 : Int))))))
      ((l27b a61 a69 a71 a72 N c0 w1 r2 i11_a out9_a rec_l27a n false (w64 (k13_b + (1 : Int))))))
      (cond (lean12_b) (chk (decide (0 ≤ i11_a ∧ i11_a < (r2.length : Int))) (chk (small (out9_a.length + 1) 24) ((rec_l27a (w64 (i11_a + (1 : Int))) (out9_a ++ ([r2.getD i11_a.toNat ([] : List Int)] : List (List Int)))))))
      ((rec_l27a (w64 (i11_a + (1 : Int))) out9_a))))
theorem wl27b (a61 : Y61) (a69 : Y69) (a71 : Y71) (a72 : Y72) (N : Nat) (c0 : Int × List (List Int) × Unit) (w1 : List Int) (r2 : List (List Int)) (i11_a : Int) (out9_a : List (List Int)) (T27_0 : TS → Option (List (List Int) × Int)) (m : Nat) (lean12_b : Bool) (k13_b : Int) : R27_1 a61 a69 a71 a72 N T27_0 (m + 1) (Sl27b c0 w1 r2 i11_a out9_a lean12_b k13_b) = chk (decide (0 ≤ i11_a ∧ i11_a < (r2.length : Int))) (cond (decide (k13_b < ((r2.getD i11_a.toNat ([] : List Int)).length : Int))) (cond (lean12_b) (chk (decide (0 ≤ i11_a ∧ i11_a < (r2.length : Int))) ((a72 (r2.getD i11_a.toNat ([] : List Int)) k13_b).bind fun r4 =>
      (a61 c0 r4 w1).bind fun r5 =>
      (R27_1 a61 a69 a71 a72 N T27_0 m (Sl27b c0 w1 r2 i11_a out9_a (!r5) (w64 (k13_b + (1 : Int)))))))
      ((R27_1 a61 a69 a71 a72 N T27_0 m (Sl27b c0 w1 r2 i11_a out9_a false (w64 (k13_b + (1 : Int)))))))
      (cond (lean12_b) (chk (decide (0 ≤ i11_a ∧ i11_a < (r2.length : Int))) (chk (small (out9_a.length + 1) 24) ((T27_0 (Sl27a c0 w1 r2 (w64 (i11_a + (1 : Int))) (out9_a ++ ([r2.getD i11_a.toNat ([] : List Int)] : List (List Int))))))))
      ((T27_0 (Sl27a c0 w1 r2 (w64 (i11_a + (1 : Int))) out9_a))))) := by kernel_rfl
theorem ql27b (a61 : Y61) (a69 : Y69) (a71 : Y71) (a72 : Y72) (N : Nat) (c0 : Int × List (List Int) × Unit) (w1 : List Int) (r2 : List (List Int)) (i11_a : Int) (out9_a : List (List Int)) (T27_0 : TS → Option (List (List Int) × Int)) : ∀ (m : Nat) (lean12_b : Bool) (k13_b : Int), R27_1 a61 a69 a71 a72 N T27_0 m (Sl27b c0 w1 r2 i11_a out9_a lean12_b k13_b) = l27b a61 a69 a71 a72 N c0 w1 r2 i11_a out9_a (fun y0 y1 => T27_0 (Sl27a c0 w1 r2 y0 y1)) m lean12_b k13_b
        | 0, _, _ => rfl
        | m + 1, lean12_b, k13_b => by rw [wl27b]; simp only [l27b, ql27b a61 a69 a71 a72 N c0 w1 r2 i11_a out9_a T27_0 m]
def l27a (a61 : Y61) (a69 : Y69) (a71 : Y71) (a72 : Y72) (N : Nat) (c0 : Int × List (List Int) × Unit) (w1 : List Int) (r2 : List (List Int)) : Nat → Int → (List (List Int)) → Option (List (List Int) × Int)
  | 0, _, _ => none
  | n + 1, i11_a, out9_a => cond (decide (i11_a < (r2.length : Int))) (chk (decide (0 ≤ i11_a ∧ i11_a < (r2.length : Int))) ((a61 c0 (r2.getD i11_a.toNat ([] : List Int)) w1).bind fun r3 =>
      (l27b a61 a69 a71 a72 N c0 w1 r2 i11_a out9_a (fun y0 y1 => (l27a a61 a69 a71 a72 N c0 w1 r2 n y0 y1)) N r3 (0 : Int))))
      (some (out9_a, (0 : Int)))
theorem wl27a (a61 : Y61) (a69 : Y69) (a71 : Y71) (a72 : Y72) (N : Nat) (c0 : Int × List (List Int) × Unit) (w1 : List Int) (r2 : List (List Int)) (m : Nat) (i11_a : Int) (out9_a : List (List Int)) : R27_0 a61 a69 a71 a72 N (m + 1) (Sl27a c0 w1 r2 i11_a out9_a) = cond (decide (i11_a < (r2.length : Int))) (chk (decide (0 ≤ i11_a ∧ i11_a < (r2.length : Int))) ((a61 c0 (r2.getD i11_a.toNat ([] : List Int)) w1).bind fun r3 =>
      (R27_1 a61 a69 a71 a72 N (R27_0 a61 a69 a71 a72 N m) N (Sl27b c0 w1 r2 i11_a out9_a r3 (0 : Int)))))
      (some (out9_a, (0 : Int))) := by kernel_rfl
theorem ql27a (a61 : Y61) (a69 : Y69) (a71 : Y71) (a72 : Y72) (N : Nat) (c0 : Int × List (List Int) × Unit) (w1 : List Int) (r2 : List (List Int)) : ∀ (m : Nat) (i11_a : Int) (out9_a : List (List Int)), R27_0 a61 a69 a71 a72 N m (Sl27a c0 w1 r2 i11_a out9_a) = l27a a61 a69 a71 a72 N c0 w1 r2 m i11_a out9_a
        | 0, _, _ => rfl
        | m + 1, i11_a, out9_a => by rw [wl27a]; simp only [l27a, ql27b, ql27a a61 a69 a71 a72 N c0 w1 r2 m]
def m27 (a61 : Y61) (a69 : Y69) (a71 : Y71) (a72 : Y72) (N : Nat) (c0 : Int × List (List Int) × Unit) (w1 : List Int) (size2 : Int) : Option (List (List Int) × Int) :=
      (a71 c0 w1 size2).bind fun r1 =>
      cond (r1 != (0 : Int)) (some (([] : List (List Int)), r1))
      ((a69 c0 size2).bind fun r2 =>
      (l27a a61 a69 a71 a72 N c0 w1 r2 N (0 : Int) ([] : List (List Int))))
theorem wm27 (a61 : Y61) (a69 : Y69) (a71 : Y71) (a72 : Y72) (N : Nat) (c0 : Int × List (List Int) × Unit) (w1 : List Int) (size2 : Int) : callF (E27 a61 a69 a71 a72) lv27 N en27 c27 (resOf Tryd.f27) 65 [.dv (.pair (.int .i64) (.pair (.sl (.sl (.int .i64))) (.unit))) c0, .dv (.sl (.int .i64)) w1, .dv (.int .i64) size2] [] dec27 = (a71 c0 w1 size2).bind fun r1 =>
      cond (r1 != (0 : Int)) (some (([] : List (List Int)), r1))
      ((a69 c0 size2).bind fun r2 =>
      (R27_0 a61 a69 a71 a72 N N (Sl27a c0 w1 r2 (0 : Int) ([] : List (List Int))))) := by kernel_rfl
theorem k27 (a61 : Y61) (a69 : Y69) (a71 : Y71) (a72 : Y72) (N : Nat) (c0 : Int × List (List Int) × Unit) (w1 : List Int) (size2 : Int) : callF (E27 a61 a69 a71 a72) lv27 N en27 c27 (resOf Tryd.f27) 65 [.dv (.pair (.int .i64) (.pair (.sl (.sl (.int .i64))) (.unit))) c0, .dv (.sl (.int .i64)) w1, .dv (.int .i64) size2] [] dec27 = m27 a61 a69 a71 a72 N c0 w1 size2 := by rw [wm27]; simp only [m27, ql27a]
theorem ok27 (a61 : Y61) (a69 : Y69) (a71 : Y71) (a72 : Y72) (h61 : FnOk Tryd.prog 61 (F61 a61)) (h69 : FnOk Tryd.prog 69 (F69 a69)) (h71 : FnOk Tryd.prog 71 (F71 a71)) (h72 : FnOk Tryd.prog 72 (F72 a72)) (a : Y27) (h : ∀ c0 w1 size2 r, a c0 w1 size2 = some r → (∃ N, m27 a61 a69 a71 a72 N c0 w1 size2 = some r)) : FnOk Tryd.prog 27 (F27 a) := by
  intro args Of x hx
  simp only [F27] at hx
  split at hx
  · rename_i c0 w1 size2
    obtain ⟨N, hN⟩ := h _ _ _ _ hx
    refine lifted (L := [(61, F61 a61), (69, F69 a69), (71, F71 a71), (72, F72 a72)]) (rc := nrc) (fz := nfz) (fn := Tryd.f27) (by kernel_rfl) (by kernel_rfl) (by kernel_rfl) (by kernel_rfl) rfl ?_ ((k27 a61 a69 a71 a72 N _ _ _).trans hN) ?_
    · intro p hp; simp only [List.mem_cons, List.not_mem_nil, or_false] at hp; rcases hp with rfl | rfl | rfl | rfl
      · exact h61
      · exact h69
      · exact h71
      · exact h72
    · intro l o hd
      simp only [dec27] at hd
      split at hd
      · obtain rfl := Option.some.inj hd; exact ⟨rfl, rfl⟩
      · cases hd
  · cases hx
def E29 (a27 : Y27) : Env := mkE TI TY [(27, F27 a27)] nrc nfz
noncomputable def c29 : Code := bodyOf Tryd.f29
def nm29_0 : Norm := ⟨[3, 8, 11], [3], [(.slot 10, 1010, .int .i64)], []⟩
def nm29_1 : Norm := ⟨[3, 8, 10, 11, 12, 13], [3, 1010], [], []⟩
def nm29_2 : Norm := ⟨[3, 8, 10, 11, 12, 13, 14], [3, 1010], [], []⟩
def lv29 : Nat → Option Norm := norms [(8, nm29_0), (12, nm29_1), (15, nm29_2)]
def en29 : End := ⟨[(74, .sl (.int .i64))], ⟨[74, 75], [], [], []⟩⟩
def dec29 (l : List TV) (o : List (Nat × TO)) : Option (List Int × Int) := match l, o with | [.dv (.sl (.int .i64)) x0, .dv (.int .i64) x1], [] => some (x0, x1) | _, _ => none
def Sl29c (c0 : Int × List (List Int) × Unit) (r1 : List (List Int) × Int) (i11_a : Int) (out10_a : List Int) (k13_b : Int) (in12_c : Int) (m14_c : Int) : TS := ⟨slots 74 [(3, .ptr 3 0 []), (8, .dv (.sl (.sl (.int .i64))) r1.1), (10, .row 1010), (11, .dv (.int .i64) i11_a), (12, .dv (.int .i64) in12_c), (13, .dv (.int .i64) k13_b), (14, .dv (.int .i64) m14_c)], [(3, .row (.pair (.int .i64) (.pair (.sl (.sl (.int .i64))) (.unit))) ([c0] : List Cd)), (1010, .row (.int .i64) out10_a)]⟩
def Sl29b (c0 : Int × List (List Int) × Unit) (r1 : List (List Int) × Int) (i11_a : Int) (out10_a : List Int) (in12_b : Int) (k13_b : Int) : TS := ⟨slots 74 [(3, .ptr 3 0 []), (8, .dv (.sl (.sl (.int .i64))) r1.1), (10, .row 1010), (11, .dv (.int .i64) i11_a), (12, .dv (.int .i64) in12_b), (13, .dv (.int .i64) k13_b)], [(3, .row (.pair (.int .i64) (.pair (.sl (.sl (.int .i64))) (.unit))) ([c0] : List Cd)), (1010, .row (.int .i64) out10_a)]⟩
def Sl29a (c0 : Int × List (List Int) × Unit) (r1 : List (List Int) × Int) (i11_a : Int) (out10_a : List Int) : TS := ⟨slots 74 [(3, .ptr 3 0 []), (8, .dv (.sl (.sl (.int .i64))) r1.1), (10, .row 1010), (11, .dv (.int .i64) i11_a)], [(1010, .row (.int .i64) out10_a), (3, .row (.pair (.int .i64) (.pair (.sl (.sl (.int .i64))) (.unit))) ([c0] : List Cd))]⟩
noncomputable def K29_0 (a27 : Y27) (N : Nat) : Kont (List Int × Int) := kont (E29 a27) lv29 N c29 [1, 1, 1, 1, 1, 0, 1, 0] (fin TI en29 (resOf Tryd.f29) dec29)
noncomputable def R29_0 (a27 : Y27) (N : Nat) (m : Nat) : TS → Option (List Int × Int) := loopK (den (E29 a27) lv29 N (sub c29 [1, 1, 1, 1, 1, 0, 1, 0, 0])) (TS.norm nm29_0) (K29_0 a27 N) m
noncomputable def K29_1 (a27 : Y27) (N : Nat) (T29_0 : TS → Option (List Int × Int)) : Kont (List Int × Int) := kont (E29 a27) lv29 N (sub c29 [1, 1, 1, 1, 1, 0, 1, 0, 0]) [1, 0, 0, 1, 0, 1, 0] (kloop (TS.norm nm29_0) (K29_0 a27 N) T29_0)
noncomputable def R29_1 (a27 : Y27) (N : Nat) (T29_0 : TS → Option (List Int × Int)) (m : Nat) : TS → Option (List Int × Int) := loopK (den (E29 a27) lv29 N (sub c29 [1, 1, 1, 1, 1, 0, 1, 0, 0, 1, 0, 0, 1, 0, 1, 0, 0])) (TS.norm nm29_1) (K29_1 a27 N T29_0) m
noncomputable def K29_2 (a27 : Y27) (N : Nat) (T29_0 : TS → Option (List Int × Int)) (T29_1 : TS → Option (List Int × Int)) : Kont (List Int × Int) := kont (E29 a27) lv29 N (sub c29 [1, 1, 1, 1, 1, 0, 1, 0, 0, 1, 0, 0, 1, 0, 1, 0, 0]) [1, 0, 0, 1, 0] (kloop (TS.norm nm29_1) (K29_1 a27 N T29_0) T29_1)
noncomputable def R29_2 (a27 : Y27) (N : Nat) (T29_0 : TS → Option (List Int × Int)) (T29_1 : TS → Option (List Int × Int)) (m : Nat) : TS → Option (List Int × Int) := loopK (den (E29 a27) lv29 N (sub c29 [1, 1, 1, 1, 1, 0, 1, 0, 0, 1, 0, 0, 1, 0, 1, 0, 0, 1, 0, 0, 1, 0, 0])) (TS.norm nm29_2) (K29_2 a27 N T29_0 T29_1) m
def l29c (a27 : Y27) (N : Nat) (c0 : Int × List (List Int) × Unit) (r1 : List (List Int) × Int) (i11_a : Int) (out10_a : List Int) (k13_b : Int) (rec_l29b : Int → Int → Option (List Int × Int)) : Nat → Int → Int → Option (List Int × Int)
  | 0, _, _ => none
  | n + 1, in12_c, m14_c => chk (decide (0 ≤ k13_b ∧ k13_b < (r1.1.length : Int))) (cond (decide (m14_c < ((r1.1.getD k13_b.toNat ([] : List Int)).length : Int))) (chk (decide (0 ≤ k13_b ∧ k13_b < (r1.1.length : Int))) (chk (decide (0 ≤ m14_c ∧ m14_c < ((r1.1.getD k13_b.toNat ([] : List Int)).length : Int))) (cond (((r1.1.getD k13_b.toNat ([] : List Int)).getD m14_c.toNat (0 : Int)) == i11_a) ((l29c a27 N c0 r1 i11_a out10_a k13_b rec_l29b n (w64 (in12_c + (1 : Int))) (w64 (m14_c + (1 : Int)))))
      ((l29c a27 N c0 r1 i11_a out10_a k13_b rec_l29b n in12_c (w64 (m14_c + (1 : Int))))))))
      ((rec_l29b in12_c (w64 (k13_b + (1 : Int))))))
theorem wl29c (a27 : Y27) (N : Nat) (c0 : Int × List (List Int) × Unit) (r1 : List (List Int) × Int) (i11_a : Int) (out10_a : List Int) (k13_b : Int) (T29_0 : TS → Option (List Int × Int)) (T29_1 : TS → Option (List Int × Int)) (m : Nat) (in12_c : Int) (m14_c : Int) : R29_2 a27 N T29_0 T29_1 (m + 1) (Sl29c c0 r1 i11_a out10_a k13_b in12_c m14_c) = chk (decide (0 ≤ k13_b ∧ k13_b < (r1.1.length : Int))) (cond (decide (m14_c < ((r1.1.getD k13_b.toNat ([] : List Int)).length : Int))) (chk (decide (0 ≤ k13_b ∧ k13_b < (r1.1.length : Int))) (chk (decide (0 ≤ m14_c ∧ m14_c < ((r1.1.getD k13_b.toNat ([] : List Int)).length : Int))) (cond (((r1.1.getD k13_b.toNat ([] : List Int)).getD m14_c.toNat (0 : Int)) == i11_a) ((R29_2 a27 N T29_0 T29_1 m (Sl29c c0 r1 i11_a out10_a k13_b (w64 (in12_c + (1 : Int))) (w64 (m14_c + (1 : Int))))))
      ((R29_2 a27 N T29_0 T29_1 m (Sl29c c0 r1 i11_a out10_a k13_b in12_c (w64 (m14_c + (1 : Int)))))))))
      ((T29_1 (Sl29b c0 r1 i11_a out10_a in12_c (w64 (k13_b + (1 : Int))))))) := by kernel_rfl
theorem ql29c (a27 : Y27) (N : Nat) (c0 : Int × List (List Int) × Unit) (r1 : List (List Int) × Int) (i11_a : Int) (out10_a : List Int) (k13_b : Int) (T29_0 : TS → Option (List Int × Int)) (T29_1 : TS → Option (List Int × Int)) : ∀ (m : Nat) (in12_c : Int) (m14_c : Int), R29_2 a27 N T29_0 T29_1 m (Sl29c c0 r1 i11_a out10_a k13_b in12_c m14_c) = l29c a27 N c0 r1 i11_a out10_a k13_b (fun y0 y1 => T29_1 (Sl29b c0 r1 i11_a out10_a y0 y1)) m in12_c m14_c
        | 0, _, _ => rfl
        | m + 1, in12_c, m14_c => by rw [wl29c]; simp only [l29c, ql29c a27 N c0 r1 i11_a out10_a k13_b T29_0 T29_1 m]
def l29b (a27 : Y27) (N : Nat) (c0 : Int × List (List Int) × Unit) (r1 : List (List Int) × Int) (i11_a : Int) (out10_a : List Int) (rec_l29a : Int → (List Int) → Option (List Int × Int)) : Nat → Int → Int → Option (List Int × Int)
  | 0, _, _ => none
  | n + 1, in12_b, k13_b => cond (decide (k13_b < (r1.1.length : Int))) ((l29c a27 N c0 r1 i11_a out10_a k13_b (fun y0 y1 => (l29b a27 N c0 r1 i11_a out10_a rec_l29a n y0 y1)) N in12_b (0 : Int)))
      (cond (in12_b == (r1.1.length : Int)) (chk (small (out10_a.length + 1) 8) ((rec_l29a (w64 (i11_a + (1 : Int))) (out10_a ++ ([i11_a] : List Int)))))
      ((rec_l29a (w64 (i11_a + (1 : Int))) out10_a)))
theorem wl29b (a27 : Y27) (N : Nat) (c0 : Int × List (List Int) × Unit) (r1 : List (List Int) × Int) (i11_a : Int) (out10_a : List Int) (T29_0 : TS → Option (List Int × Int)) (m : Nat) (in12_b : Int) (k13_b : Int) : R29_1 a27 N T29_0 (m + 1) (Sl29b c0 r1 i11_a out10_a in12_b k13_b) = cond (decide (k13_b < (r1.1.length : Int))) ((R29_2 a27 N T29_0 (R29_1 a27 N T29_0 m) N (Sl29c c0 r1 i11_a out10_a k13_b in12_b (0 : Int))))
      (cond (in12_b == (r1.1.length : Int)) (chk (small (out10_a.length + 1) 8) ((T29_0 (Sl29a c0 r1 (w64 (i11_a + (1 : Int))) (out10_a ++ ([i11_a] : List Int))))))
      ((T29_0 (Sl29a c0 r1 (w64 (i11_a + (1 : Int))) out10_a)))) := by kernel_rfl
theorem ql29b (a27 : Y27) (N : Nat) (c0 : Int × List (List Int) × Unit) (r1 : List (List Int) × Int) (i11_a : Int) (out10_a : List Int) (T29_0 : TS → Option (List Int × Int)) : ∀ (m : Nat) (in12_b : Int) (k13_b : Int), R29_1 a27 N T29_0 m (Sl29b c0 r1 i11_a out10_a in12_b k13_b) = l29b a27 N c0 r1 i11_a out10_a (fun y0 y1 => T29_0 (Sl29a c0 r1 y0 y1)) m in12_b k13_b
        | 0, _, _ => rfl
        | m + 1, in12_b, k13_b => by rw [wl29b]; simp only [l29b, ql29c, ql29b a27 N c0 r1 i11_a out10_a T29_0 m]
def l29a (a27 : Y27) (N : Nat) (c0 : Int × List (List Int) × Unit) (r1 : List (List Int) × Int) : Nat → Int → (List Int) → Option (List Int × Int)
  | 0, _, _ => none
  | n + 1, i11_a, out10_a => cond (decide (i11_a < (c0.2.1.length : Int))) ((l29b a27 N c0 r1 i11_a out10_a (fun y0 y1 => (l29a a27 N c0 r1 n y0 y1)) N (0 : Int) (0 : Int)))
      (some (out10_a, (0 : Int)))
theorem wl29a (a27 : Y27) (N : Nat) (c0 : Int × List (List Int) × Unit) (r1 : List (List Int) × Int) (m : Nat) (i11_a : Int) (out10_a : List Int) : R29_0 a27 N (m + 1) (Sl29a c0 r1 i11_a out10_a) = cond (decide (i11_a < (c0.2.1.length : Int))) ((R29_1 a27 N (R29_0 a27 N m) N (Sl29b c0 r1 i11_a out10_a (0 : Int) (0 : Int))))
      (some (out10_a, (0 : Int))) := by kernel_rfl
theorem ql29a (a27 : Y27) (N : Nat) (c0 : Int × List (List Int) × Unit) (r1 : List (List Int) × Int) : ∀ (m : Nat) (i11_a : Int) (out10_a : List Int), R29_0 a27 N m (Sl29a c0 r1 i11_a out10_a) = l29a a27 N c0 r1 m i11_a out10_a
        | 0, _, _ => rfl
        | m + 1, i11_a, out10_a => by rw [wl29a]; simp only [l29a, ql29b, ql29a a27 N c0 r1 m]
def m29 (a27 : Y27) (N : Nat) (c0 : Int × List (List Int) × Unit) (w1 : List Int) (size2 : Int) : Option (List Int × Int) :=
      (a27 c0 w1 size2).bind fun r1 =>
      cond (r1.2 == (0 : Int)) (cond ((r1.1.length : Int) == (0 : Int)) (some (([] : List Int), (14 : Int)))
      (cond (r1.2 != (0 : Int)) (some (([] : List Int), r1.2))
      ((l29a a27 N c0 r1 N (0 : Int) ([] : List Int)))))
      (cond (r1.2 != (0 : Int)) (some (([] : List Int), r1.2))
      ((l29a a27 N c0 r1 N (0 : Int) ([] : List Int))))
theorem wm29 (a27 : Y27) (N : Nat) (c0 : Int × List (List Int) × Unit) (w1 : List Int) (size2 : Int) : callF (E29 a27) lv29 N en29 c29 (resOf Tryd.f29) 71 [.dv (.pair (.int .i64) (.pair (.sl (.sl (.int .i64))) (.unit))) c0, .dv (.sl (.int .i64)) w1, .dv (.int .i64) size2] [] dec29 = (a27 c0 w1 size2).bind fun r1 =>
      cond (r1.2 == (0 : Int)) (cond ((r1.1.length : Int) == (0 : Int)) (some (([] : List Int), (14 : Int)))
      (cond (r1.2 != (0 : Int)) (some (([] : List Int), r1.2))
      ((R29_0 a27 N N (Sl29a c0 r1 (0 : Int) ([] : List Int))))))
      (cond (r1.2 != (0 : Int)) (some (([] : List Int), r1.2))
      ((R29_0 a27 N N (Sl29a c0 r1 (0 : Int) ([] : List Int))))) := by kernel_rfl
theorem k29 (a27 : Y27) (N : Nat) (c0 : Int × List (List Int) × Unit) (w1 : List Int) (size2 : Int) : callF (E29 a27) lv29 N en29 c29 (resOf Tryd.f29) 71 [.dv (.pair (.int .i64) (.pair (.sl (.sl (.int .i64))) (.unit))) c0, .dv (.sl (.int .i64)) w1, .dv (.int .i64) size2] [] dec29 = m29 a27 N c0 w1 size2 := by rw [wm29]; simp only [m29, ql29a]
theorem ok29 (a27 : Y27) (h27 : FnOk Tryd.prog 27 (F27 a27)) (a : Y29) (h : ∀ c0 w1 size2 r, a c0 w1 size2 = some r → (∃ N, m29 a27 N c0 w1 size2 = some r)) : FnOk Tryd.prog 29 (F29 a) := by
  intro args Of x hx
  simp only [F29] at hx
  split at hx
  · rename_i c0 w1 size2
    obtain ⟨N, hN⟩ := h _ _ _ _ hx
    refine lifted (L := [(27, F27 a27)]) (rc := nrc) (fz := nfz) (fn := Tryd.f29) (by kernel_rfl) (by kernel_rfl) (by kernel_rfl) (by kernel_rfl) rfl ?_ ((k29 a27 N _ _ _).trans hN) ?_
    · intro p hp; simp only [List.mem_cons, List.not_mem_nil, or_false] at hp; rcases hp with rfl; exact h27
    · intro l o hd
      simp only [dec29] at hd
      split at hd
      · obtain rfl := Option.some.inj hd; exact ⟨rfl, rfl⟩
      · cases hd
  · cases hx
def E31 (a23 : Y23) (a54 : Y54) (a60 : Y60) : Env := mkE TI TY [(23, F23 a23), (54, F54 a54), (60, F60 a60)] nrc nfz
noncomputable def c31 : Code := bodyOf Tryd.f31
def nm31_0 : Norm := ⟨[1, 2, 7, 8], [2], [], []⟩
def nm31_1 : Norm := ⟨[1, 2, 7, 10], [2], [(.slot 9, 1009, .int .i64)], []⟩
def lv31 : Nat → Option Norm := norms [(8, nm31_0), (13, nm31_1)]
def en31 : End := ⟨[(58, .sl (.int .i64))], ⟨[58, 59], [], [], []⟩⟩
def dec31 (l : List TV) (o : List (Nat × TO)) : Option (List Int × Int) := match l, o with | [.dv (.sl (.int .i64)) x0, .dv (.int .i64) x1], [] => some (x0, x1) | _, _ => none
def Sl31b (c0 : Int × List (List Int) × Unit) (w1 : List Int) (least7_a : Int) (i10_b : Int) (out9_b : List Int) : TS := ⟨slots 58 [(1, .dv (.sl (.int .i64)) w1), (2, .ptr 2 0 []), (7, .dv (.int .i64) least7_a), (9, .row 1009), (10, .dv (.int .i64) i10_b)], [(1009, .row (.int .i64) out9_b), (2, .row (.pair (.int .i64) (.pair (.sl (.sl (.int .i64))) (.unit))) ([c0] : List Cd))]⟩
def Sl31a (c0 : Int × List (List Int) × Unit) (w1 : List Int) (least7_a : Int) (i8_a : Int) : TS := ⟨slots 58 [(1, .dv (.sl (.int .i64)) w1), (2, .ptr 2 0 []), (7, .dv (.int .i64) least7_a), (8, .dv (.int .i64) i8_a)], [(2, .row (.pair (.int .i64) (.pair (.sl (.sl (.int .i64))) (.unit))) ([c0] : List Cd))]⟩
noncomputable def K31_0 (a23 : Y23) (a54 : Y54) (a60 : Y60) (N : Nat) : Kont (List Int × Int) := kont (E31 a23 a54 a60) lv31 N c31 [1, 1, 1, 1, 1, 0, 1, 0] (fin TI en31 (resOf Tryd.f31) dec31)
noncomputable def R31_0 (a23 : Y23) (a54 : Y54) (a60 : Y60) (N : Nat) (m : Nat) : TS → Option (List Int × Int) := loopK (den (E31 a23 a54 a60) lv31 N (sub c31 [1, 1, 1, 1, 1, 0, 1, 0, 0])) (TS.norm nm31_0) (K31_0 a23 a54 a60 N) m
noncomputable def K31_1 (a23 : Y23) (a54 : Y54) (a60 : Y60) (N : Nat) : Kont (List Int × Int) := kont (E31 a23 a54 a60) lv31 N c31 [1, 1, 1, 1, 1, 1, 1, 0, 1, 0] (fin TI en31 (resOf Tryd.f31) dec31)
noncomputable def R31_1 (a23 : Y23) (a54 : Y54) (a60 : Y60) (N : Nat) (m : Nat) : TS → Option (List Int × Int) := loopK (den (E31 a23 a54 a60) lv31 N (sub c31 [1, 1, 1, 1, 1, 1, 1, 0, 1, 0, 0])) (TS.norm nm31_1) (K31_1 a23 a54 a60 N) m
def l31b (a23 : Y23) (a54 : Y54) (a60 : Y60) (N : Nat) (c0 : Int × List (List Int) × Unit) (w1 : List Int) (least7_a : Int) : Nat → Int → (List Int) → Option (List Int × Int)
  | 0, _, _ => none
  | n + 1, i10_b, out9_b => cond (decide (i10_b < (c0.2.1.length : Int))) (chk (decide (0 ≤ i10_b ∧ i10_b < (c0.2.1.length : Int))) ((a54 (c0.2.1.getD i10_b.toNat ([] : List Int)) w1).bind fun r4 =>
      cond (r4 == least7_a) (chk (small (out9_b.length + 1) 8) ((l31b a23 a54 a60 N c0 w1 least7_a n (w64 (i10_b + (1 : Int))) (out9_b ++ ([i10_b] : List Int)))))
      ((l31b a23 a54 a60 N c0 w1 least7_a n (w64 (i10_b + (1 : Int))) out9_b))))
      (some (out9_b, (0 : Int)))
theorem wl31b (a23 : Y23) (a54 : Y54) (a60 : Y60) (N : Nat) (c0 : Int × List (List Int) × Unit) (w1 : List Int) (least7_a : Int) (m : Nat) (i10_b : Int) (out9_b : List Int) : R31_1 a23 a54 a60 N (m + 1) (Sl31b c0 w1 least7_a i10_b out9_b) = cond (decide (i10_b < (c0.2.1.length : Int))) (chk (decide (0 ≤ i10_b ∧ i10_b < (c0.2.1.length : Int))) ((a54 (c0.2.1.getD i10_b.toNat ([] : List Int)) w1).bind fun r4 =>
      cond (r4 == least7_a) (chk (small (out9_b.length + 1) 8) ((R31_1 a23 a54 a60 N m (Sl31b c0 w1 least7_a (w64 (i10_b + (1 : Int))) (out9_b ++ ([i10_b] : List Int))))))
      ((R31_1 a23 a54 a60 N m (Sl31b c0 w1 least7_a (w64 (i10_b + (1 : Int))) out9_b)))))
      (some (out9_b, (0 : Int))) := by kernel_rfl
theorem ql31b (a23 : Y23) (a54 : Y54) (a60 : Y60) (N : Nat) (c0 : Int × List (List Int) × Unit) (w1 : List Int) (least7_a : Int) : ∀ (m : Nat) (i10_b : Int) (out9_b : List Int), R31_1 a23 a54 a60 N m (Sl31b c0 w1 least7_a i10_b out9_b) = l31b a23 a54 a60 N c0 w1 least7_a m i10_b out9_b
        | 0, _, _ => rfl
        | m + 1, i10_b, out9_b => by rw [wl31b]; simp only [l31b, ql31b a23 a54 a60 N c0 w1 least7_a m]
def l31a (a23 : Y23) (a54 : Y54) (a60 : Y60) (N : Nat) (c0 : Int × List (List Int) × Unit) (w1 : List Int) : Nat → Int → Int → Option (List Int × Int)
  | 0, _, _ => none
  | n + 1, least7_a, i8_a => cond (decide (i8_a < (c0.2.1.length : Int))) (chk (decide (0 ≤ i8_a ∧ i8_a < (c0.2.1.length : Int))) ((a54 (c0.2.1.getD i8_a.toNat ([] : List Int)) w1).bind fun r3 =>
      (l31a a23 a54 a60 N c0 w1 n (imin least7_a r3) (w64 (i8_a + (1 : Int))))))
      ((l31b a23 a54 a60 N c0 w1 least7_a N (0 : Int) ([] : List Int)))
theorem wl31a (a23 : Y23) (a54 : Y54) (a60 : Y60) (N : Nat) (c0 : Int × List (List Int) × Unit) (w1 : List Int) (m : Nat) (least7_a : Int) (i8_a : Int) : R31_0 a23 a54 a60 N (m + 1) (Sl31a c0 w1 least7_a i8_a) = cond (decide (i8_a < (c0.2.1.length : Int))) (chk (decide (0 ≤ i8_a ∧ i8_a < (c0.2.1.length : Int))) ((a54 (c0.2.1.getD i8_a.toNat ([] : List Int)) w1).bind fun r3 =>
      (R31_0 a23 a54 a60 N m (Sl31a c0 w1 (imin least7_a r3) (w64 (i8_a + (1 : Int)))))))
      ((R31_1 a23 a54 a60 N N (Sl31b c0 w1 least7_a (0 : Int) ([] : List Int)))) := by kernel_rfl
theorem ql31a (a23 : Y23) (a54 : Y54) (a60 : Y60) (N : Nat) (c0 : Int × List (List Int) × Unit) (w1 : List Int) : ∀ (m : Nat) (least7_a : Int) (i8_a : Int), R31_0 a23 a54 a60 N m (Sl31a c0 w1 least7_a i8_a) = l31a a23 a54 a60 N c0 w1 m least7_a i8_a
        | 0, _, _ => rfl
        | m + 1, least7_a, i8_a => by rw [wl31a]; simp only [l31a, ql31b, ql31a a23 a54 a60 N c0 w1 m]
def m31 (a23 : Y23) (a54 : Y54) (a60 : Y60) (N : Nat) (c0 : Int × List (List Int) × Unit) (w1 : List Int) : Option (List Int × Int) :=
      (a23 c0).bind fun r1 =>
      cond (r1 == (0 : Int)) ((a60 c0 w1).bind fun r2 =>
      cond (r2 != (0 : Int)) (some (([] : List Int), r2))
      ((l31a a23 a54 a60 N c0 w1 N (8 : Int) (0 : Int))))
      (cond (r1 != (0 : Int)) (some (([] : List Int), r1))
      ((l31a a23 a54 a60 N c0 w1 N (8 : Int) (0 : Int))))
theorem wm31 (a23 : Y23) (a54 : Y54) (a60 : Y60) (N : Nat) (c0 : Int × List (List Int) × Unit) (w1 : List Int) : callF (E31 a23 a54 a60) lv31 N en31 c31 (resOf Tryd.f31) 56 [.dv (.pair (.int .i64) (.pair (.sl (.sl (.int .i64))) (.unit))) c0, .dv (.sl (.int .i64)) w1] [] dec31 = (a23 c0).bind fun r1 =>
      cond (r1 == (0 : Int)) ((a60 c0 w1).bind fun r2 =>
      cond (r2 != (0 : Int)) (some (([] : List Int), r2))
      ((R31_0 a23 a54 a60 N N (Sl31a c0 w1 (8 : Int) (0 : Int)))))
      (cond (r1 != (0 : Int)) (some (([] : List Int), r1))
      ((R31_0 a23 a54 a60 N N (Sl31a c0 w1 (8 : Int) (0 : Int))))) := by kernel_rfl
theorem k31 (a23 : Y23) (a54 : Y54) (a60 : Y60) (N : Nat) (c0 : Int × List (List Int) × Unit) (w1 : List Int) : callF (E31 a23 a54 a60) lv31 N en31 c31 (resOf Tryd.f31) 56 [.dv (.pair (.int .i64) (.pair (.sl (.sl (.int .i64))) (.unit))) c0, .dv (.sl (.int .i64)) w1] [] dec31 = m31 a23 a54 a60 N c0 w1 := by rw [wm31]; simp only [m31, ql31a]
theorem ok31 (a23 : Y23) (a54 : Y54) (a60 : Y60) (h23 : FnOk Tryd.prog 23 (F23 a23)) (h54 : FnOk Tryd.prog 54 (F54 a54)) (h60 : FnOk Tryd.prog 60 (F60 a60)) (a : Y31) (h : ∀ c0 w1 r, a c0 w1 = some r → (∃ N, m31 a23 a54 a60 N c0 w1 = some r)) : FnOk Tryd.prog 31 (F31 a) := by
  intro args Of x hx
  simp only [F31] at hx
  split at hx
  · rename_i c0 w1
    obtain ⟨N, hN⟩ := h _ _ _ hx
    refine lifted (L := [(23, F23 a23), (54, F54 a54), (60, F60 a60)]) (rc := nrc) (fz := nfz) (fn := Tryd.f31) (by kernel_rfl) (by kernel_rfl) (by kernel_rfl) (by kernel_rfl) rfl ?_ ((k31 a23 a54 a60 N _ _).trans hN) ?_
    · intro p hp; simp only [List.mem_cons, List.not_mem_nil, or_false] at hp; rcases hp with rfl | rfl | rfl
      · exact h23
      · exact h54
      · exact h60
    · intro l o hd
      simp only [dec31] at hd
      split at hd
      · obtain rfl := Option.some.inj hd; exact ⟨rfl, rfl⟩
      · cases hd
  · cases hx
end Go.Proofs.YtbjfbbfglkmadaaDoor
