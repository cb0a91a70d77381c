/-
  Functions 76, 35, told as plain functions.
-/
import Derived.Test.YtbjfbbfglkmadaaDoorQFI
namespace Go.Proofs.YtbjfbbfglkmadaaDoor
open Go.RowKit
set_option linter.unusedVariables false
def E76 : Env := mkE TI TY [] nrc nfz
noncomputable def c76 : Code := bodyOf Tryd.f76
def nm76_0 : Norm := ⟨[0, 1, 5], [], [], []⟩
def lv76 : Nat → Option Norm := norms [(2, nm76_0)]
def en76 : End := ⟨[], ⟨[18], [], [], []⟩⟩
def dec76 (l : List TV) (o : List (Nat × TO)) : Option (Bool) := match l, o with | [.dv (.bool) x0], [] => some (x0) | _, _ => none
def Sl76a (l0 : List Int) (n1 : Int) (i5_a : Int) : TS := ⟨slots 18 [(0, .dv (.sl (.int .i64)) l0), (1, .dv (.int .i64) n1), (5, .dv (.int .i64) i5_a)], []⟩
noncomputable def K76_0 (N : Nat) : Kont (Bool) := kont (E76) lv76 N c76 [1, 0, 1, 0] (fin TI en76 (resOf Tryd.f76) dec76)
noncomputable def R76_0 (N : Nat) (m : Nat) : TS → Option (Bool) := loopK (den (E76) lv76 N (sub c76 [1, 0, 1, 0, 0])) (TS.norm nm76_0) (K76_0 N) m
def l76a (N : Nat) (l0 : List Int) (n1 : Int) : Nat → Int → Option (Bool)
  | 0, _ => none
  | n + 1, i5_a => cond (decide (i5_a < (l0.length : Int))) (chk (decide (0 ≤ i5_a ∧ i5_a < (l0.length : Int))) (cond ((l0.getD i5_a.toNat (0 : Int)) == n1) (some true)
      ((l76a N l0 n1 n (w64 (i5_a + (1 : Int)))))))
      (some false)
theorem wl76a (N : Nat) (l0 : List Int) (n1 : Int) (m : Nat) (i5_a : Int) : R76_0 N (m + 1) (Sl76a l0 n1 i5_a) = cond (decide (i5_a < (l0.length : Int))) (chk (decide (0 ≤ i5_a ∧ i5_a < (l0.length : Int))) (cond ((l0.getD i5_a.toNat (0 : Int)) == n1) (some true)
      ((R76_0 N m (Sl76a l0 n1 (w64 (i5_a + (1 : Int))))))))
      (some false) := by kernel_rfl
theorem ql76a (N : Nat) (l0 : List Int) (n1 : Int) : ∀ (m : Nat) (i5_a : Int), R76_0 N m (Sl76a l0 n1 i5_a) = l76a N l0 n1 m i5_a
        | 0, _ => rfl
        | m + 1, i5_a => by rw [wl76a]; simp only [l76a, ql76a N l0 n1 m]
def m76 (N : Nat) (l0 : List Int) (n1 : Int) : Option (Bool) :=
      (l76a N l0 n1 N (0 : Int))
theorem wm76 (N : Nat) (l0 : List Int) (n1 : Int) : callF (E76) lv76 N en76 c76 (resOf Tryd.f76) 16 [.dv (.sl (.int .i64)) l0, .dv (.int .i64) n1] [] dec76 = (R76_0 N N (Sl76a l0 n1 (0 : Int))) := by kernel_rfl
theorem k76 (N : Nat) (l0 : List Int) (n1 : Int) : callF (E76) lv76 N en76 c76 (resOf Tryd.f76) 16 [.dv (.sl (.int .i64)) l0, .dv (.int .i64) n1] [] dec76 = m76 N l0 n1 := by rw [wm76]; simp only [m76, ql76a]
theorem ok76 (a : Y76) (h : ∀ l0 n1 r, a l0 n1 = some r → (∃ N, m76 N l0 n1 = some r)) : FnOk Tryd.prog 76 (F76 a) := by
  intro args Of x hx
  simp only [F76] at hx
  split at hx
  · rename_i l0 n1
    obtain ⟨N, hN⟩ := h _ _ _ hx
    refine lifted (L := []) (rc := nrc) (fz := nfz) (fn := Tryd.f76) (by kernel_rfl) (by kernel_rfl) (by kernel_rfl) (by kernel_rfl) rfl ?_ ((k76 N _ _).trans hN) ?_
    · intro p hp; cases hp
    · intro l o hd
      simp only [dec76] at hd
      split at hd
      · obtain rfl := Option.some.inj hd; exact ⟨rfl, rfl⟩
      · cases hd
  · cases hx
def E35 (a23 : Y23) (a61 : Y61) (a65 : Y65) (a69 : Y69) (a76 : Y76) (a77 : Y77) : Env := mkE TI TY [(23, F23 a23), (61, F61 a61), (65, F65 a65), (69, F69 a69), (76, F76 a76), (77, F77 a77)] nrc nfz
noncomputable def c35 : Code := bodyOf Tryd.f35
def nm35_0 : Norm := ⟨[2, 8, 9, 10, 11], [2], [], [(8, .sl (.int .i64))]⟩
def nm35_1 : Norm := ⟨[2, 8, 9, 10, 11, 12], [2], [], [(8, .sl (.int .i64))]⟩
def lv35 : Nat → Option Norm := norms [(10, nm35_0), (13, nm35_1)]
def en35 : End := ⟨[(96, .sl (.int .i64))], ⟨[96, 97, 98], [], [], []⟩⟩
def dec35 (l : List TV) (o : List (Nat × TO)) : Option (List Int × Int × Int) := match l, o with | [.dv (.sl (.int .i64)) x0, .dv (.int .i64) x1, .dv (.int .i64) x2], [] => some (x0, x1, x2) | _, _ => none
def Sl35b (c0 : Int × List (List Int) × Unit) (l10_a : List (List Int)) (i11_a : Int) (best8_b : List Int) (customer9_b : Int) (k12_b : Int) : TS := ⟨slots 96 [(2, .ptr 2 0 []), (8, .dv (.sl (.int .i64)) best8_b), (9, .dv (.int .i64) customer9_b), (10, .dv (.sl (.sl (.int .i64))) l10_a), (11, .dv (.int .i64) i11_a), (12, .dv (.int .i64) k12_b)], [(2, .row (.pair (.int .i64) (.pair (.sl (.sl (.int .i64))) (.unit))) ([c0] : List Cd))]⟩
def Sl35a (c0 : Int × List (List Int) × Unit) (best8_a : List Int) (customer9_a : Int) (l10_a : List (List Int)) (i11_a : Int) : TS := ⟨slots 96 [(2, .ptr 2 0 []), (8, .dv (.sl (.int .i64)) best8_a), (9, .dv (.int .i64) customer9_a), (10, .dv (.sl (.sl (.int .i64))) l10_a), (11, .dv (.int .i64) i11_a)], [(2, .row (.pair (.int .i64) (.pair (.sl (.sl (.int .i64))) (.unit))) ([c0] : List Cd))]⟩
noncomputable def K35_0 (a23 : Y23) (a61 : Y61) (a65 : Y65) (a69 : Y69) (a76 : Y76) (a77 : Y77) (N : Nat) : Kont (List Int × Int × Int) := kont (E35 a23 a61 a65 a69 a76 a77) lv35 N c35 [1, 1, 1, 1, 1, 1, 1, 0, 1, 0] (fin TI en35 (resOf Tryd.f35) dec35)
noncomputable def R35_0 (a23 : Y23) (a61 : Y61) (a65 : Y65) (a69 : Y69) (a76 : Y76) (a77 : Y77) (N : Nat) (m : Nat) : TS → Option (List Int × Int × Int) := loopK (den (E35 a23 a61 a65 a69 a76 a77) lv35 N (sub c35 [1, 1, 1, 1, 1, 1, 1, 0, 1, 0, 0])) (TS.norm nm35_0) (K35_0 a23 a61 a65 a69 a76 a77 N) m
noncomputable def K35_1 (a23 : Y23) (a61 : Y61) (a65 : Y65) (a69 : Y69) (a76 : Y76) (a77 : Y77) (N : Nat) (T35_0 : TS → Option (List Int × Int × Int)) : Kont (List Int × Int × Int) := kont (E35 a23 a61 a65 a69 a76 a77) lv35 N (sub c35 [1, 1, 1, 1, 1, 1, 1, 0, 1, 0, 0]) [1, 0, 0, 1, 0] (kloop (TS.norm nm35_0) (K35_0 a23 a61 a65 a69 a76 a77 N) T35_0)
noncomputable def R35_1 (a23 : Y23) (a61 : Y61) (a65 : Y65) (a69 : Y69) (a76 : Y76) (a77 : Y77) (N : Nat) (T35_0 : TS → Option (List Int × Int × Int)) (m : Nat) : TS → Option (List Int × Int × Int) := loopK (den (E35 a23 a61 a65 a69 a76 a77) lv35 N (sub c35 [1, 1, 1, 1, 1, 1, 1, 0, 1, 0, 0, 1, 0, 0, 1, 0, 0])) (TS.norm nm35_1) (K35_1 a23 a61 a65 a69 a76 a77 N T35_0) m
def l35b (a23 : Y23) (a61 : Y61) (a65 : Y65) (a69 : Y69) (a76 : Y76) (a77 : Y77) (N : Nat) (c0 : Int × List (List Int) × Unit) (l10_a : List (List Int)) (i11_a : Int) (rec_l35a : (List Int) → Int → (List (List Int)) → Int → Option (List Int × Int × Int)) : Nat → (List Int) → Int → Int → Option (List Int × Int × Int)
  | 0, _, _, _ => none
  | n + 1, best8_b, customer9_b, k12_b => cond (decide (k12_b ≥ (0 : Int))) (chk (decide (0 ≤ i11_a ∧ i11_a < (l10_a.length : Int))) ((a76 (l10_a.getD i11_a.toNat ([] : List Int)) k12_b).bind fun r4 =>
      cond (!r4) (chk (decide (0 ≤ i11_a ∧ i11_a < (l10_a.length : Int))) (chk (decide (0 ≤ k12_b ∧ k12_b < (c0.2.1.length : Int))) ((a61 c0 (l10_a.getD i11_a.toNat ([] : List Int)) (c0.2.1.getD k12_b.toNat ([] : List Int))).bind fun r5 =>
      cond (r5) (cond ((best8_b.length : Int) == (0 : Int)) (chk (decide (0 ≤ i11_a ∧ i11_a < (l10_a.length : Int))) ((l35b a23 a61 a65 a69 a76 a77 N c0 l10_a i11_a rec_l35a n (l10_a.getD i11_a.toNat ([] : List Int)) k12_b (w64 (k12_b - (1 : Int))))))
      (chk (decide (0 ≤ i11_a ∧ i11_a < (l10_a.length : Int))) (cond (decide (((l10_a.getD i11_a.toNat ([] : List Int)).length : Int) < (best8_b.length : Int))) (chk (decide (0 ≤ i11_a ∧ i11_a < (l10_a.length : Int))) ((l35b a23 a61 a65 a69 a76 a77 N c0 l10_a i11_a rec_l35a n (l10_a.getD i11_a.toNat ([] : List Int)) k12_b (w64 (k12_b - (1 : Int))))))
      (chk (decide (0 ≤ i11_a ∧ i11_a < (l10_a.length : Int))) ((a77 best8_b (l10_a.getD i11_a.toNat ([] : List Int))).bind fun r6 =>
      cond (!r6) (chk (decide (0 ≤ i11_a ∧ i11_a < (l10_a.length : Int))) ((l35b a23 a61 a65 a69 a76 a77 N c0 l10_a i11_a rec_l35a n (l10_a.getD i11_a.toNat ([] : List Int)) k12_b (w64 (k12_b - (1 : Int))))))
      ((l35b a23 a61 a65 a69 a76 a77 N c0 l10_a i11_a rec_l35a n best8_b customer9_b (w64 (k12_b - (1 : Int))))))))))
      ((l35b a23 a61 a65 a69 a76 a77 N c0 l10_a i11_a rec_l35a n best8_b customer9_b (w64 (k12_b - (1 : Int))))))))
      ((l35b a23 a61 a65 a69 a76 a77 N c0 l10_a i11_a rec_l35a n best8_b customer9_b (w64 (k12_b - (1 : Int)))))))
      ((rec_l35a best8_b customer9_b l10_a (w64 (i11_a + (1 : Int)))))
theorem wl35b (a23 : Y23) (a61 : Y61) (a65 : Y65) (a69 : Y69) (a76 : Y76) (a77 : Y77) (N : Nat) (c0 : Int × List (List Int) × Unit) (l10_a : List (List Int)) (i11_a : Int) (T35_0 : TS → Option (List Int × Int × Int)) (m : Nat) (best8_b : List Int) (customer9_b : Int) (k12_b : Int) : R35_1 a23 a61 a65 a69 a76 a77 N T35_0 (m + 1) (Sl35b c0 l10_a i11_a best8_b customer9_b k12_b) = cond (decide (k12_b ≥ (0 : Int))) (chk (decide (0 ≤ i11_a ∧ i11_a < (l10_a.length : Int))) ((a76 (l10_a.getD i11_a.toNat ([] : List Int)) k12_b).bind fun r4 =>
      cond (!r4) (chk (decide (0 ≤ i11_a ∧ i11_a < (l10_a.length : Int))) (chk (decide (0 ≤ k12_b ∧ k12_b < (c0.2.1.length : Int))) ((a61 c0 (l10_a.getD i11_a.toNat ([] : List Int)) (c0.2.1.getD k12_b.toNat ([] : List Int))).bind fun r5 =>
      cond (r5) (cond ((best8_b.length : Int) == (0 : Int)) (chk (decide (0 ≤ i11_a ∧ i11_a < (l10_a.length : Int))) ((R35_1 a23 a61 a65 a69 a76 a77 N T35_0 m (Sl35b c0 l10_a i11_a (l10_a.getD i11_a.toNat ([] : List Int)) k12_b (w64 (k12_b - (1 : Int)))))))
      (chk (decide (0 ≤ i11_a ∧ i11_a < (l10_a.length : Int))) (cond (decide (((l10_a.getD i11_a.toNat ([] : List Int)).length : Int) < (best8_b.length : Int))) (chk (decide (0 ≤ i11_a ∧ i11_a < (l10_a.length : Int))) ((R35_1 a23 a61 a65 a69 a76 a77 N T35_0 m (Sl35b c0 l10_a i11_a (l10_a.getD i11_a.toNat ([] : List Int)) k12_b (w64 (k12_b - (1 : Int)))))))
      (chk (decide (0 ≤ i11_a ∧ i11_a < (l10_a.length : Int))) ((a77 best8_b (l10_a.getD i11_a.toNat ([] : List Int))).bind fun r6 =>
      cond (!r6) (chk (decide (0 ≤ i11_a ∧ i11_a < (l10_a.length : Int))) ((R35_1 a23 a61 a65 a69 a76 a77 N T35_0 m (Sl35b c0 l10_a i11_a (l10_a.getD i11_a.toNat ([] : List Int)) k12_b (w64 (k12_b - (1 : Int)))))))
      ((R35_1 a23 a61 a65 a69 a76 a77 N T35_0 m (Sl35b c0 l10_a i11_a best8_b customer9_b (w64 (k12_b - (1 : Int)))))))))))
      ((R35_1 a23 a61 a65 a69 a76 a77 N T35_0 m (Sl35b c0 l10_a i11_a best8_b customer9_b (w64 (k12_b - (1 : Int)))))))))
      ((R35_1 a23 a61 a65 a69 a76 a77 N T35_0 m (Sl35b c0 l10_a i11_a best8_b customer9_b (w64 (k12_b - (1 : Int))))))))
      ((T35_0 (Sl35a c0 best8_b customer9_b l10_a (w64 (i11_a + (1 : Int)))))) := by kernel_rfl
theorem ql35b (a23 : Y23) (a61 : Y61) (a65 : Y65) (a69 : Y69) (a76 : Y76) (a77 : Y77) (N : Nat) (c0 : Int × List (List Int) × Unit) (l10_a : List (List Int)) (i11_a : Int) (T35_0 : TS → Option (List Int × Int × Int)) : ∀ (m : Nat) (best8_b : List Int) (customer9_b : Int) (k12_b : Int), R35_1 a23 a61 a65 a69 a76 a77 N T35_0 m (Sl35b c0 l10_a i11_a best8_b customer9_b k12_b) = l35b a23 a61 a65 a69 a76 a77 N c0 l10_a i11_a (fun y0 y1 y2 y3 => T35_0 (Sl35a c0 y0 y1 y2 y3)) m best8_b customer9_b k12_b
        | 0, _, _, _ => rfl
        | m + 1, best8_b, customer9_b, k12_b => by rw [wl35b]; simp only [l35b, ql35b a23 a61 a65 a69 a76 a77 N c0 l10_a i11_a T35_0 m]
def l35a (a23 : Y23) (a61 : Y61) (a65 : Y65) (a69 : Y69) (a76 : Y76) (a77 : Y77) (N : Nat) (c0 : Int × List (List Int) × Unit) : Nat → (List Int) → Int → (List (List Int)) → Int → Option (List Int × Int × Int)
  | 0, _, _, _, _ => none
  | n + 1, best8_a, customer9_a, l10_a, i11_a => cond (decide (i11_a < (l10_a.length : Int))) ((l35b a23 a61 a65 a69 a76 a77 N c0 l10_a i11_a (fun y0 y1 y2 y3 => (l35a a23 a61 a65 a69 a76 a77 N c0 n y0 y1 y2 y3)) N best8_a customer9_a (w64 ((c0.2.1.length : Int) - (1 : Int)))))
      (cond ((best8_a.length : Int) == (0 : Int)) (some (([] : List Int), (0 : Int), (5 : Int)))
      (some (best8_a, customer9_a, (0 : Int))))
theorem wl35a (a23 : Y23) (a61 : Y61) (a65 : Y65) (a69 : Y69) (a76 : Y76) (a77 : Y77) (N : Nat) (c0 : Int × List (List Int) × Unit) (m : Nat) (best8_a : List Int) (customer9_a : Int) (l10_a : List (List Int)) (i11_a : Int) : R35_0 a23 a61 a65 a69 a76 a77 N (m + 1) (Sl35a c0 best8_a customer9_a l10_a i11_a) = cond (decide (i11_a < (l10_a.length : Int))) ((R35_1 a23 a61 a65 a69 a76 a77 N (R35_0 a23 a61 a65 a69 a76 a77 N m) N (Sl35b c0 l10_a i11_a best8_a customer9_a (w64 ((c0.2.1.length : Int) - (1 : Int))))))
      (cond ((best8_a.length : Int) == (0 : Int)) (some (([] : List Int), (0 : Int), (5 : Int)))
      (some (best8_a, customer9_a, (0 : Int)))) := by kernel_rfl
theorem ql35a (a23 : Y23) (a61 : Y61) (a65 : Y65) (a69 : Y69) (a76 : Y76) (a77 : Y77) (N : Nat) (c0 : Int × List (List Int) × Unit) : ∀ (m : Nat) (best8_a : List Int) (customer9_a : Int) (l10_a : List (List Int)) (i11_a : Int), R35_0 a23 a61 a65 a69 a76 a77 N m (Sl35a c0 best8_a customer9_a l10_a i11_a) = l35a a23 a61 a65 a69 a76 a77 N c0 m best8_a customer9_a l10_a i11_a
        | 0, _, _, _, _ => rfl
        | m + 1, best8_a, customer9_a, l10_a, i11_a => by rw [wl35a]; simp only [l35a, ql35b, ql35a a23 a61 a65 a69 a76 a77 N c0 m]
def m35 (a23 : Y23) (a61 : Y61) (a65 : Y65) (a69 : Y69) (a76 : Y76) (a77 : Y77) (N : Nat) (c0 : Int × List (List Int) × Unit) (size1 : Int) : Option (List Int × Int × Int) :=
      (a23 c0).bind fun r1 =>
      cond (r1 == (0 : Int)) ((a65 size1 (1 : Int) (10 : Int)).bind fun r2 =>
      cond (!r2) (some (([] : List Int), (0 : Int), (4 : Int)))
      (cond (r1 != (0 : Int)) (some (([] : List Int), (0 : Int), r1))
      ((a69 c0 size1).bind fun r3 =>
      (l35a a23 a61 a65 a69 a76 a77 N c0 N ([] : List Int) (0 : Int) r3 (0 : Int)))))
      (cond (r1 != (0 : Int)) (some (([] : List Int), (0 : Int), r1))
      ((a69 c0 size1).bind fun r7 =>
      (l35a a23 a61 a65 a69 a76 a77 N c0 N ([] : List Int) (0 : Int) r7 (0 : Int))))
theorem wm35 (a23 : Y23) (a61 : Y61) (a65 : Y65) (a69 : Y69) (a76 : Y76) (a77 : Y77) (N : Nat) (c0 : Int × List (List Int) × Unit) (size1 : Int) : callF (E35 a23 a61 a65 a69 a76 a77) lv35 N en35 c35 (resOf Tryd.f35) 94 [.dv (.pair (.int .i64) (.pair (.sl (.sl (.int .i64))) (.unit))) c0, .dv (.int .i64) size1] [] dec35 = (a23 c0).bind fun r1 =>
      cond (r1 == (0 : Int)) ((a65 size1 (1 : Int) (10 : Int)).bind fun r2 =>
      cond (!r2) (some (([] : List Int), (0 : Int), (4 : Int)))
      (cond (r1 != (0 : Int)) (some (([] : List Int), (0 : Int), r1))
      ((a69 c0 size1).bind fun r3 =>
      (R35_0 a23 a61 a65 a69 a76 a77 N N (Sl35a c0 ([] : List Int) (0 : Int) r3 (0 : Int))))))
      (cond (r1 != (0 : Int)) (some (([] : List Int), (0 : Int), r1))
      ((a69 c0 size1).bind fun r7 =>
      (R35_0 a23 a61 a65 a69 a76 a77 N N (Sl35a c0 ([] : List Int) (0 : Int) r7 (0 : Int))))) := by kernel_rfl
theorem k35 (a23 : Y23) (a61 : Y61) (a65 : Y65) (a69 : Y69) (a76 : Y76) (a77 : Y77) (N : Nat) (c0 : Int × List (List Int) × Unit) (size1 : Int) : callF (E35 a23 a61 a65 a69 a76 a77) lv35 N en35 c35 (resOf Tryd.f35) 94 [.dv (.pair (.int .i64) (.pair (.sl (.sl (.int .i64))) (.unit))) c0, .dv (.int .i64) size1] [] dec35 = m35 a23 a61 a65 a69 a76 a77 N c0 size1 := by rw [wm35]; simp only [m35, ql35a]
theorem ok35 (a23 : Y23) (a61 : Y61) (a65 : Y65) (a69 : Y69) (a76 : Y76) (a77 : Y77) (h23 : FnOk Tryd.prog 23 (F23 a23)) (h61 : FnOk Tryd.prog 61 (F61 a61)) (h65 : FnOk Tryd.prog 65 (F65 a65)) (h69 : FnOk Tryd.prog 69 (F69 a69)) (h76 : FnOk Tryd.prog 76 (F76 a76)) (h77 : FnOk Tryd.prog 77 (F77 a77)) (a : Y35) (h : ∀ c0 size1 r, a c0 size1 = some r → (∃ N, m35 a23 a61 a65 a69 a76 a77 N c0 size1 = some r)) : FnOk Tryd.prog 35 (F35 a) := by
  intro args Of x hx
  simp only [F35] at hx
  split at hx
  · rename_i c0 size1
    obtain ⟨N, hN⟩ := h _ _ _ hx
    refine lifted (L := [(23, F23 a23), (61, F61 a61), (65, F65 a65), (69, F69 a69), (76, F76 a76), (77, F77 a77)]) (rc := nrc) (fz := nfz) (fn := Tryd.f35) (by kernel_rfl) (by kernel_rfl) (by kernel_rfl) (by kernel_rfl) rfl ?_ ((k35 a23 a61 a65 a69 a76 a77 N _ _).trans hN) ?_
    · intro p hp; simp only [List.mem_cons, List.not_mem_nil, or_false] at hp; rcases hp with rfl | rfl | rfl | rfl | rfl | rfl
      · exact h23
      · exact h61
      · exact h65
      · exact h69
      · exact h76
      · exact h77
    · intro l o hd
      simp only [dec35] at hd
      split at hd
      · obtain rfl := Option.some.inj hd; exact ⟨rfl, rfl⟩
      · cases hd
  · cases hx
end Go.Proofs.YtbjfbbfglkmadaaDoor
