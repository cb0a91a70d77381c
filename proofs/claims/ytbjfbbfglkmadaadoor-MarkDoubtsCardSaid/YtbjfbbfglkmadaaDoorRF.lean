/-
  Functions 76, 79, 80, 37, 39, told as plain functions.
-/
import Derived.Test.YtbjfbbfglkmadaaDoorQFI
namespace Go.Proofs.YtbjfbbfglkmadaaDoor
open Go.RowKit
set_option linter.unusedVariables false
def E76 : Env := mkE TI TY [] nrc nfz
noncomputable def c76 : Code := bodyOf Tryd.f76
def nm76_0 : Norm := ⟨[0, 1, 5], [], [], []⟩
def lv76 : Nat → Option Norm := norms [(2, nm76_0)]
def en76 : End := ⟨[], ⟨[18], [], [], []⟩⟩
def dec76 (l : List TV) (o : List (Nat × TO)) : Option (Bool) := match l, o with | [.dv (.bool) x0], [] => some (x0) | _, _ => none
def Sl76a (l0 : List Int) (n1 : Int) (i5_a : Int) : TS := ⟨slots 18 [(0, .dv (.sl (.int .i64)) l0), (1, .dv (.int .i64) n1), (5, .dv (.int .i64) i5_a)], []⟩
noncomputable def K76_0 (N : Nat) : Kont (Bool) := kont (E76) lv76 N c76 [1, 0, 1, 0] (fin TI en76 (resOf Tryd.f76) dec76)
noncomputable def R76_0 (N : Nat) (m : Nat) : TS → Option (Bool) := loopK (den (E76) lv76 N (sub c76 [1, 0, 1, 0, 0])) (TS.norm nm76_0) (K76_0 N) m
def l76a (N : Nat) (l0 : List Int) (n1 : Int) : Nat → Int → Option (Bool)
  | 0, _ => none
  | n + 1, i5_a => cond (decide (i5_a < (l0.length : Int))) (chk (decide (0 ≤ i5_a ∧ i5_a < (l0.length : Int))) (cond ((l0.getD i5_a.toNat (0 : Int)) == n1) (some true)
      ((l76a N l0 n1 n (w64 (i5_a + (1 : Int)))))))
      (some false)
theorem wl76a (N : Nat) (l0 : List Int) (n1 : Int) (m : Nat) (i5_a : Int) : R76_0 N (m + 1) (Sl76a l0 n1 i5_a) = cond (decide (i5_a < (l0.length : Int))) (chk (decide (0 ≤ i5_a ∧ i5_a < (l0.length : Int))) (cond ((l0.getD i5_a.toNat (0 : Int)) == n1) (some true)
      ((R76_0 N m (Sl76a l0 n1 (w64 (i5_a + (1 : Int))))))))
      (some false) := by kernel_rfl
theorem ql76a (N : Nat) (l0 : List Int) (n1 : Int) : ∀ (m : Nat) (i5_a : Int), R76_0 N m (Sl76a l0 n1 i5_a) = l76a N l0 n1 m i5_a
        | 0, _ => rfl
        | m + 1, i5_a => by rw [wl76a]; simp only [l76a, ql76a N l0 n1 m]
def m76 (N : Nat) (l0 : List Int) (n1 : Int) : Option (Bool) :=
      (l76a N l0 n1 N (0 : Int))
theorem wm76 (N : Nat) (l0 : List Int) (n1 : Int) : callF (E76) lv76 N en76 c76 (resOf Tryd.f76) 16 [.dv (.sl (.int .i64)) l0, .dv (.int .i64) n1] [] dec76 = (R76_0 N N (Sl76a l0 n1 (0 : Int))) := by kernel_rfl
theorem k76 (N : Nat) (l0 : List Int) (n1 : Int) : callF (E76) lv76 N en76 c76 (resOf Tryd.f76) 16 [.dv (.sl (.int .i64)) l0, .dv (.int .i64) n1] [] dec76 = m76 N l0 n1 := by rw [wm76]; simp only [m76, ql76a]
theorem ok76 (a : Y76) (h : ∀ l0 n1 r, a l0 n1 = some r → (∃ N, m76 N l0 n1 = some r)) : FnOk Tryd.prog 76 (F76 a) := by
  intro args Of x hx
  simp only [F76] at hx
  split at hx
  · rename_i l0 n1
    obtain ⟨N, hN⟩ := h _ _ _ hx
    refine lifted (L := []) (rc := nrc) (fz := nfz) (fn := Tryd.f76) (by kernel_rfl) (by kernel_rfl) (by kernel_rfl) (by kernel_rfl) rfl ?_ ((k76 N _ _).trans hN) ?_
    · intro p hp; cases hp
    · intro l o hd
      simp only [dec76] at hd
      split at hd
      · obtain rfl := Option.some.inj hd; exact ⟨rfl, rfl⟩
      · cases hd
  · cases hx
def E79 (a76 : Y76) : Env := mkE TI TY [(76, F76 a76)] nrc nfz
noncomputable def c79 : Code := bodyOf Tryd.f79
def nm79_0 : Norm := ⟨[1, 2, 5], [2], [], []⟩
def nm79_1 : Norm := ⟨[1, 2, 5, 6, 7], [2], [], []⟩
def lv79 : Nat → Option Norm := norms [(2, nm79_0), (6, nm79_1)]
def en79 : End := ⟨[], ⟨[31], [], [], []⟩⟩
def dec79 (l : List TV) (o : List (Nat × TO)) : Option (Bool) := match l, o with | [.dv (.bool) x0], [] => some (x0) | _, _ => none
def Sl79b (c0 : Int × List (List Int) × Unit) (l1 : List (List Int)) (x5_a : Int) (all6_b : Bool) (i7_b : Int) : TS := ⟨slots 31 [(1, .dv (.sl (.sl (.int .i64))) l1), (2, .ptr 2 0 []), (5, .dv (.int .i64) x5_a), (6, .dv (.bool) all6_b), (7, .dv (.int .i64) i7_b)], [(2, .row (.pair (.int .i64) (.pair (.sl (.sl (.int .i64))) (.unit))) ([c0] : List Cd))]⟩
def Sl79a (c0 : Int × List (List Int) × Unit) (l1 : List (List Int)) (x5_a : Int) : TS := ⟨slots 31 [(1, .dv (.sl (.sl (.int .i64))) l1), (2, .ptr 2 0 []), (5, .dv (.int .i64) x5_a)], [(2, .row (.pair (.int .i64) (.pair (.sl (.sl (.int .i64))) (.unit))) ([c0] : List Cd))]⟩
noncomputable def K79_0 (a76 : Y76) (N : Nat) : Kont (Bool) := kont (E79 a76) lv79 N c79 [1, 0, 1, 0] (fin TI en79 (resOf Tryd.f79) dec79)
noncomputable def R79_0 (a76 : Y76) (N : Nat) (m : Nat) : TS → Option (Bool) := loopK (den (E79 a76) lv79 N (sub c79 [1, 0, 1, 0, 0])) (TS.norm nm79_0) (K79_0 a76 N) m
noncomputable def K79_1 (a76 : Y76) (N : Nat) (T79_0 : TS → Option (Bool)) : Kont (Bool) := kont (E79 a76) lv79 N (sub c79 [1, 0, 1, 0, 0]) [1, 0, 0, 1, 0, 1, 0] (kloop (TS.norm nm79_0) (K79_0 a76 N) T79_0)
noncomputable def R79_1 (a76 : Y76) (N : Nat) (T79_0 : TS → Option (Bool)) (m : Nat) : TS → Option (Bool) := loopK (den (E79 a76) lv79 N (sub c79 [1, 0, 1, 0, 0, 1, 0, 0, 1, 0, 1, 0, 0])) (TS.norm nm79_1) (K79_1 a76 N T79_0) m
def l79b (a76 : Y76) (N : Nat) (c0 : Int × List (List Int) × Unit) (l1 : List (List Int)) (x5_a : Int) (rec_l79a : Int → Option (Bool)) : Nat → Bool → Int → Option (Bool)
  | 0, _, _ => none
  | n + 1, all6_b, i7_b => cond (decide (i7_b < (l1.length : Int))) (cond (all6_b) (chk (decide (0 ≤ i7_b ∧ i7_b < (l1.length : Int))) ((a76 (l1.getD i7_b.toNat ([] : List Int)) x5_a).bind fun r1 =>
      (l79b a76 N c0 l1 x5_a rec_l79a n r1 (w64 (i7_b + (1 : Int))))))
      ((l79b a76 N c0 l1 x5_a rec_l79a n false (w64 (i7_b + (1 : Int))))))
      (cond (all6_b) (some true)
      ((rec_l79a (w64 (x5_a + (1 : Int))))))
theorem wl79b (a76 : Y76) (N : Nat) (c0 : Int × List (List Int) × Unit) (l1 : List (List Int)) (x5_a : Int) (T79_0 : TS → Option (Bool)) (m : Nat) (all6_b : Bool) (i7_b : Int) : R79_1 a76 N T79_0 (m + 1) (Sl79b c0 l1 x5_a all6_b i7_b) = cond (decide (i7_b < (l1.length : Int))) (cond (all6_b) (chk (decide (0 ≤ i7_b ∧ i7_b < (l1.length : Int))) ((a76 (l1.getD i7_b.toNat ([] : List Int)) x5_a).bind fun r1 =>
      (R79_1 a76 N T79_0 m (Sl79b c0 l1 x5_a r1 (w64 (i7_b + (1 : Int)))))))
      ((R79_1 a76 N T79_0 m (Sl79b c0 l1 x5_a false (w64 (i7_b + (1 : Int)))))))
      (cond (all6_b) (some true)
      ((T79_0 (Sl79a c0 l1 (w64 (x5_a + (1 : Int))))))) := by kernel_rfl
theorem ql79b (a76 : Y76) (N : Nat) (c0 : Int × List (List Int) × Unit) (l1 : List (List Int)) (x5_a : Int) (T79_0 : TS → Option (Bool)) : ∀ (m : Nat) (all6_b : Bool) (i7_b : Int), R79_1 a76 N T79_0 m (Sl79b c0 l1 x5_a all6_b i7_b) = l79b a76 N c0 l1 x5_a (fun y0 => T79_0 (Sl79a c0 l1 y0)) m all6_b i7_b
        | 0, _, _ => rfl
        | m + 1, all6_b, i7_b => by rw [wl79b]; simp only [l79b, ql79b a76 N c0 l1 x5_a T79_0 m]
def l79a (a76 : Y76) (N : Nat) (c0 : Int × List (List Int) × Unit) (l1 : List (List Int)) : Nat → Int → Option (Bool)
  | 0, _ => none
  | n + 1, x5_a => cond (decide (x5_a < (c0.2.1.length : Int))) ((l79b a76 N c0 l1 x5_a (fun y0 => (l79a a76 N c0 l1 n y0)) N true (0 : Int)))
      (some false)
theorem wl79a (a76 : Y76) (N : Nat) (c0 : Int × List (List Int) × Unit) (l1 : List (List Int)) (m : Nat) (x5_a : Int) : R79_0 a76 N (m + 1) (Sl79a c0 l1 x5_a) = cond (decide (x5_a < (c0.2.1.length : Int))) ((R79_1 a76 N (R79_0 a76 N m) N (Sl79b c0 l1 x5_a true (0 : Int))))
      (some false) := by kernel_rfl
theorem ql79a (a76 : Y76) (N : Nat) (c0 : Int × List (List Int) × Unit) (l1 : List (List Int)) : ∀ (m : Nat) (x5_a : Int), R79_0 a76 N m (Sl79a c0 l1 x5_a) = l79a a76 N c0 l1 m x5_a
        | 0, _ => rfl
        | m + 1, x5_a => by rw [wl79a]; simp only [l79a, ql79b, ql79a a76 N c0 l1 m]
def m79 (a76 : Y76) (N : Nat) (c0 : Int × List (List Int) × Unit) (l1 : List (List Int)) : Option (Bool) :=
      (l79a a76 N c0 l1 N (0 : Int))
theorem wm79 (a76 : Y76) (N : Nat) (c0 : Int × List (List Int) × Unit) (l1 : List (List Int)) : callF (E79 a76) lv79 N en79 c79 (resOf Tryd.f79) 29 [.dv (.pair (.int .i64) (.pair (.sl (.sl (.int .i64))) (.unit))) c0, .dv (.sl (.sl (.int .i64))) l1] [] dec79 = (R79_0 a76 N N (Sl79a c0 l1 (0 : Int))) := by kernel_rfl
theorem k79 (a76 : Y76) (N : Nat) (c0 : Int × List (List Int) × Unit) (l1 : List (List Int)) : callF (E79 a76) lv79 N en79 c79 (resOf Tryd.f79) 29 [.dv (.pair (.int .i64) (.pair (.sl (.sl (.int .i64))) (.unit))) c0, .dv (.sl (.sl (.int .i64))) l1] [] dec79 = m79 a76 N c0 l1 := by rw [wm79]; simp only [m79, ql79a]
theorem ok79 (a76 : Y76) (h76 : FnOk Tryd.prog 76 (F76 a76)) (a : Y79) (h : ∀ c0 l1 r, a c0 l1 = some r → (∃ N, m79 a76 N c0 l1 = some r)) : FnOk Tryd.prog 79 (F79 a) := by
  intro args Of x hx
  simp only [F79] at hx
  split at hx
  · rename_i c0 l1
    obtain ⟨N, hN⟩ := h _ _ _ hx
    refine lifted (L := [(76, F76 a76)]) (rc := nrc) (fz := nfz) (fn := Tryd.f79) (by kernel_rfl) (by kernel_rfl) (by kernel_rfl) (by kernel_rfl) rfl ?_ ((k79 a76 N _ _).trans hN) ?_
    · intro p hp; simp only [List.mem_cons, List.not_mem_nil, or_false] at hp; rcases hp with rfl; exact h76
    · intro l o hd
      simp only [dec79] at hd
      split at hd
      · obtain rfl := Option.some.inj hd; exact ⟨rfl, rfl⟩
      · cases hd
  · cases hx
def E80 : Env := mkE TI TY [] nrc nfz
noncomputable def c80 : Code := bodyOf Tryd.f80
def nm80_0 : Norm := ⟨[1, 2, 5], [2], [], []⟩
def nm80_1 : Norm := ⟨[1, 2, 5, 6, 7], [2], [], []⟩
def nm80_2 : Norm := ⟨[1, 2, 5, 6, 7, 8, 9], [2], [], []⟩
def nm80_3 : Norm := ⟨[1, 2, 5, 6, 7, 8, 9, 10, 11], [2], [], []⟩
def lv80 : Nat → Option Norm := norms [(2, nm80_0), (6, nm80_1), (10, nm80_2), (14, nm80_3)]
def en80 : End := ⟨[], ⟨[71], [], [], []⟩⟩
def dec80 (l : List TV) (o : List (Nat × TO)) : Option (Bool) := match l, o with | [.dv (.bool) x0], [] => some (x0) | _, _ => none
def Sl80d (c0 : Int × List (List Int) × Unit) (l1 : List (List Int)) (k5_a : Int) (found6_b : Bool) (m7_b : Int) (all8_c : Bool) (i9_c : Int) (has10_d : Bool) (j11_d : Int) : TS := ⟨slots 71 [(1, .dv (.sl (.sl (.int .i64))) l1), (2, .ptr 2 0 []), (5, .dv (.int .i64) k5_a), (6, .dv (.bool) found6_b), (7, .dv (.int .i64) m7_b), (8, .dv (.bool) all8_c), (9, .dv (.int .i64) i9_c), (10, .dv (.bool) has10_d), (11, .dv (.int .i64) j11_d)], [(2, .row (.pair (.int .i64) (.pair (.sl (.sl (.int .i64))) (.unit))) ([c0] : List Cd))]⟩
def Sl80c (c0 : Int × List (List Int) × Unit) (l1 : List (List Int)) (k5_a : Int) (found6_b : Bool) (m7_b : Int) (all8_c : Bool) (i9_c : Int) : TS := ⟨slots 71 [(1, .dv (.sl (.sl (.int .i64))) l1), (2, .ptr 2 0 []), (5, .dv (.int .i64) k5_a), (6, .dv (.bool) found6_b), (7, .dv (.int .i64) m7_b), (8, .dv (.bool) all8_c), (9, .dv (.int .i64) i9_c)], [(2, .row (.pair (.int .i64) (.pair (.sl (.sl (.int .i64))) (.unit))) ([c0] : List Cd))]⟩
def Sl80b (c0 : Int × List (List Int) × Unit) (l1 : List (List Int)) (k5_a : Int) (found6_b : Bool) (m7_b : Int) : TS := ⟨slots 71 [(1, .dv (.sl (.sl (.int .i64))) l1), (2, .ptr 2 0 []), (5, .dv (.int .i64) k5_a), (6, .dv (.bool) found6_b), (7, .dv (.int .i64) m7_b)], [(2, .row (.pair (.int .i64) (.pair (.sl (.sl (.int .i64))) (.unit))) ([c0] : List Cd))]⟩
def Sl80a (c0 : Int × List (List Int) × Unit) (l1 : List (List Int)) (k5_a : Int) : TS := ⟨slots 71 [(1, .dv (.sl (.sl (.int .i64))) l1), (2, .ptr 2 0 []), (5, .dv (.int .i64) k5_a)], [(2, .row (.pair (.int .i64) (.pair (.sl (.sl (.int .i64))) (.unit))) ([c0] : List Cd))]⟩
noncomputable def K80_0 (N : Nat) : Kont (Bool) := kont (E80) lv80 N c80 [1, 0, 1, 0] (fin TI en80 (resOf Tryd.f80) dec80)
noncomputable def R80_0 (N : Nat) (m : Nat) : TS → Option (Bool) := loopK (den (E80) lv80 N (sub c80 [1, 0, 1, 0, 0])) (TS.norm nm80_0) (K80_0 N) m
noncomputable def K80_1 (N : Nat) (T80_0 : TS → Option (Bool)) : Kont (Bool) := kont (E80) lv80 N (sub c80 [1, 0, 1, 0, 0]) [1, 0, 0, 1, 0, 1, 0] (kloop (TS.norm nm80_0) (K80_0 N) T80_0)
noncomputable def R80_1 (N : Nat) (T80_0 : TS → Option (Bool)) (m : Nat) : TS → Option (Bool) := loopK (den (E80) lv80 N (sub c80 [1, 0, 1, 0, 0, 1, 0, 0, 1, 0, 1, 0, 0])) (TS.norm nm80_1) (K80_1 N T80_0) m
noncomputable def K80_2 (N : Nat) (T80_0 : TS → Option (Bool)) (T80_1 : TS → Option (Bool)) : Kont (Bool) := kont (E80) lv80 N (sub c80 [1, 0, 1, 0, 0, 1, 0, 0, 1, 0, 1, 0, 0]) [1, 0, 0, 1, 0, 1, 0] (kloop (TS.norm nm80_1) (K80_1 N T80_0) T80_1)
noncomputable def R80_2 (N : Nat) (T80_0 : TS → Option (Bool)) (T80_1 : TS → Option (Bool)) (m : Nat) : TS → Option (Bool) := loopK (den (E80) lv80 N (sub c80 [1, 0, 1, 0, 0, 1, 0, 0, 1, 0, 1, 0, 0, 1, 0, 0, 1, 0, 1, 0, 0])) (TS.norm nm80_2) (K80_2 N T80_0 T80_1) m
noncomputable def K80_3 (N : Nat) (T80_0 : TS → Option (Bool)) (T80_1 : TS → Option (Bool)) (T80_2 : TS → Option (Bool)) : Kont (Bool) := kont (E80) lv80 N (sub c80 [1, 0, 1, 0, 0, 1, 0, 0, 1, 0, 1, 0, 0, 1, 0, 0, 1, 0, 1, 0, 0]) [1, 0, 0, 1, 0, 1, 0] (kloop (TS.norm nm80_2) (K80_2 N T80_0 T80_1) T80_2)
noncomputable def R80_3 (N : Nat) (T80_0 : TS → Option (Bool)) (T80_1 : TS → Option (Bool)) (T80_2 : TS → Option (Bool)) (m : Nat) : TS → Option (Bool) := loopK (den (E80) lv80 N (sub c80 [1, 0, 1, 0, 0, 1, 0, 0, 1, 0, 1, 0, 0, 1, 0, 0, 1, 0, 1, 0, 0, 1, 0, 0, 1, 0, 1, 0, 0])) (TS.norm nm80_3) (K80_3 N T80_0 T80_1 T80_2) m
def l80d (N : Nat) (c0 : Int × List (List Int) × Unit) (l1 : List (List Int)) (k5_a : Int) (found6_b : Bool) (m7_b : Int) (all8_c : Bool) (i9_c : Int) (rec_l80c : Bool → Int → Option (Bool)) : Nat → Bool → Int → Option (Bool)
  | 0, _, _ => none
  | n + 1, has10_d, j11_d => chk (decide (0 ≤ i9_c ∧ i9_c < (l1.length : Int))) (cond (decide (j11_d < ((l1.getD i9_c.toNat ([] : List Int)).length : Int))) (cond (has10_d) ((l80d N c0 l1 k5_a found6_b m7_b all8_c i9_c rec_l80c n true (w64 (j11_d + (1 : Int)))))
      (chk (decide (0 ≤ i9_c ∧ i9_c < (l1.length : Int))) (chk (decide (0 ≤ j11_d ∧ j11_d < ((l1.getD i9_c.toNat ([] : List Int)).length : Int))) (chk (decide (0 ≤ (l1.getD i9_c.toNat ([] : List Int)).getD j11_d.toNat (0 : Int) ∧ (l1.getD i9_c.toNat ([] : List Int)).getD j11_d.toNat (0 : Int) < (c0.2.1.length : Int))) (chk (decide (0 ≤ k5_a ∧ k5_a < ((c0.2.1.getD (((l1.getD i9_c.toNat ([] : List Int)).getD j11_d.toNat (0 : Int)).toNat) ([] : List Int)).length : Int))) ((l80d N c0 l1 k5_a found6_b m7_b all8_c i9_c rec_l80c n (((c0.2.1.getD (((l1.getD i9_c.toNat ([] : List Int)).getD j11_d.toNat (0 : Int)).toNat) ([] : List Int)).getD k5_a.toNat (0 : Int)) == m7_b) (w64 (j11_d + (1 : Int))))))))))
      (cond (all8_c) ((rec_l80c has10_d (w64 (i9_c + (1 : Int)))))
      ((rec_l80c false (w64 (i9_c + (1 : Int)))))))
theorem wl80d (N : Nat) (c0 : Int × List (List Int) × Unit) (l1 : List (List Int)) (k5_a : Int) (found6_b : Bool) (m7_b : Int) (all8_c : Bool) (i9_c : Int) (T80_0 : TS → Option (Bool)) (T80_1 : TS → Option (Bool)) (T80_2 : TS → Option (Bool)) (m : Nat) (has10_d : Bool) (j11_d : Int) : R80_3 N T80_0 T80_1 T80_2 (m + 1) (Sl80d c0 l1 k5_a found6_b m7_b all8_c i9_c has10_d j11_d) = chk (decide (0 ≤ i9_c ∧ i9_c < (l1.length : Int))) (cond (decide (j11_d < ((l1.getD i9_c.toNat ([] : List Int)).length : Int))) (cond (has10_d) ((R80_3 N T80_0 T80_1 T80_2 m (Sl80d c0 l1 k5_a found6_b m7_b all8_c i9_c true (w64 (j11_d + (1 : Int))))))
      (chk (decide (0 ≤ i9_c ∧ i9_c < (l1.length : Int))) (chk (decide (0 ≤ j11_d ∧ j11_d < ((l1.getD i9_c.toNat ([] : List Int)).length : Int))) (chk (decide (0 ≤ (l1.getD i9_c.toNat ([] : List Int)).getD j11_d.toNat (0 : Int) ∧ (l1.getD i9_c.toNat ([] : List Int)).getD j11_d.toNat (0 : Int) < (c0.2.1.length : Int))) (chk (decide (0 ≤ k5_a ∧ k5_a < ((c0.2.1.getD (((l1.getD i9_c.toNat ([] : List Int)).getD j11_d.toNat (0 : Int)).toNat) ([] : List Int)).length : Int))) ((R80_3 N T80_0 T80_1 T80_2 m (Sl80d c0 l1 k5_a found6_b m7_b all8_c i9_c (((c0.2.1.getD (((l1.getD i9_c.toNat ([] : List Int)).getD j11_d.toNat (0 : Int)).toNat) ([] : List Int)).getD k5_a.toNat (0 : Int)) == m7_b) (w64 (j11_d + (1 : Int)))))))))))
      (cond (all8_c) ((T80_2 (Sl80c c0 l1 k5_a found6_b m7_b has10_d (w64 (i9_c + (1 : Int))))))
      ((T80_2 (Sl80c c0 l1 k5_a found6_b m7_b false (w64 (i9_c + (1 : Int)))))))) := by kernel_rfl
theorem ql80d (N : Nat) (c0 : Int × List (List Int) × Unit) (l1 : List (List Int)) (k5_a : Int) (found6_b : Bool) (m7_b : Int) (all8_c : Bool) (i9_c : Int) (T80_0 : TS → Option (Bool)) (T80_1 : TS → Option (Bool)) (T80_2 : TS → Option (Bool)) : ∀ (m : Nat) (has10_d : Bool) (j11_d : Int), R80_3 N T80_0 T80_1 T80_2 m (Sl80d c0 l1 k5_a found6_b m7_b all8_c i9_c has10_d j11_d) = l80d N c0 l1 k5_a found6_b m7_b all8_c i9_c (fun y0 y1 => T80_2 (Sl80c c0 l1 k5_a found6_b m7_b y0 y1)) m has10_d j11_d
        | 0, _, _ => rfl
        | m + 1, has10_d, j11_d => by rw [wl80d]; simp only [l80d, ql80d N c0 l1 k5_a found6_b m7_b all8_c i9_c T80_0 T80_1 T80_2 m]
def l80c (N : Nat) (c0 : Int × List (List Int) × Unit) (l1 : List (List Int)) (k5_a : Int) (found6_b : Bool) (m7_b : Int) (rec_l80b : Bool → Int → Option (Bool)) : Nat → Bool → Int → Option (Bool)
  | 0, _, _ => none
  | n + 1, all8_c, i9_c => cond (decide (i9_c < (l1.length : Int))) ((l80d N c0 l1 k5_a found6_b m7_b all8_c i9_c (fun y0 y1 => (l80c N c0 l1 k5_a found6_b m7_b rec_l80b n y0 y1)) N false (0 : Int)))
      (cond (found6_b) ((rec_l80b true (w64 (m7_b + (1 : Int)))))
      ((rec_l80b all8_c (w64 (m7_b + (1 : Int))))))
theorem wl80c (N : Nat) (c0 : Int × List (List Int) × Unit) (l1 : List (List Int)) (k5_a : Int) (found6_b : Bool) (m7_b : Int) (T80_0 : TS → Option (Bool)) (T80_1 : TS → Option (Bool)) (m : Nat) (all8_c : Bool) (i9_c : Int) : R80_2 N T80_0 T80_1 (m + 1) (Sl80c c0 l1 k5_a found6_b m7_b all8_c i9_c) = cond (decide (i9_c < (l1.length : Int))) ((R80_3 N T80_0 T80_1 (R80_2 N T80_0 T80_1 m) N (Sl80d c0 l1 k5_a found6_b m7_b all8_c i9_c false (0 : Int))))
      (cond (found6_b) ((T80_1 (Sl80b c0 l1 k5_a true (w64 (m7_b + (1 : Int))))))
      ((T80_1 (Sl80b c0 l1 k5_a all8_c (w64 (m7_b + (1 : Int))))))) := by kernel_rfl
theorem ql80c (N : Nat) (c0 : Int × List (List Int) × Unit) (l1 : List (List Int)) (k5_a : Int) (found6_b : Bool) (m7_b : Int) (T80_0 : TS → Option (Bool)) (T80_1 : TS → Option (Bool)) : ∀ (m : Nat) (all8_c : Bool) (i9_c : Int), R80_2 N T80_0 T80_1 m (Sl80c c0 l1 k5_a found6_b m7_b all8_c i9_c) = l80c N c0 l1 k5_a found6_b m7_b (fun y0 y1 => T80_1 (Sl80b c0 l1 k5_a y0 y1)) m all8_c i9_c
        | 0, _, _ => rfl
        | m + 1, all8_c, i9_c => by rw [wl80c]; simp only [l80c, ql80d, ql80c N c0 l1 k5_a found6_b m7_b T80_0 T80_1 m]
def l80b (N : Nat) (c0 : Int × List (List Int) × Unit) (l1 : List (List Int)) (k5_a : Int) (rec_l80a : Int → Option (Bool)) : Nat → Bool → Int → Option (Bool)
  | 0, _, _ => none
  | n + 1, found6_b, m7_b => cond (decide (m7_b < c0.1)) ((l80c N c0 l1 k5_a found6_b m7_b (fun y0 y1 => (l80b N c0 l1 k5_a rec_l80a n y0 y1)) N true (0 : Int)))
      (cond (!found6_b) (some false)
      ((rec_l80a (w64 (k5_a + (1 : Int))))))
theorem wl80b (N : Nat) (c0 : Int × List (List Int) × Unit) (l1 : List (List Int)) (k5_a : Int) (T80_0 : TS → Option (Bool)) (m : Nat) (found6_b : Bool) (m7_b : Int) : R80_1 N T80_0 (m + 1) (Sl80b c0 l1 k5_a found6_b m7_b) = cond (decide (m7_b < c0.1)) ((R80_2 N T80_0 (R80_1 N T80_0 m) N (Sl80c c0 l1 k5_a found6_b m7_b true (0 : Int))))
      (cond (!found6_b) (some false)
      ((T80_0 (Sl80a c0 l1 (w64 (k5_a + (1 : Int))))))) := by kernel_rfl
theorem ql80b (N : Nat) (c0 : Int × List (List Int) × Unit) (l1 : List (List Int)) (k5_a : Int) (T80_0 : TS → Option (Bool)) : ∀ (m : Nat) (found6_b : Bool) (m7_b : Int), R80_1 N T80_0 m (Sl80b c0 l1 k5_a found6_b m7_b) = l80b N c0 l1 k5_a (fun y0 => T80_0 (Sl80a c0 l1 y0)) m found6_b m7_b
        | 0, _, _ => rfl
        | m + 1, found6_b, m7_b => by rw [wl80b]; simp only [l80b, ql80c, ql80b N c0 l1 k5_a T80_0 m]
def l80a (N : Nat) (c0 : Int × List (List Int) × Unit) (l1 : List (List Int)) : Nat → Int → Option (Bool)
  | 0, _ => none
  | n + 1, k5_a => chk (decide (0 ≤ (0 : Int) ∧ (0 : Int) < (c0.2.1.length : Int))) (cond (decide (k5_a < ((c0.2.1.getD 0 ([] : List Int)).length : Int))) ((l80b N c0 l1 k5_a (fun y0 => (l80a N c0 l1 n y0)) N false (0 : Int)))
      (some true))
theorem wl80a (N : Nat) (c0 : Int × List (List Int) × Unit) (l1 : List (List Int)) (m : Nat) (k5_a : Int) : R80_0 N (m + 1) (Sl80a c0 l1 k5_a) = chk (decide (0 ≤ (0 : Int) ∧ (0 : Int) < (c0.2.1.length : Int))) (cond (decide (k5_a < ((c0.2.1.getD 0 ([] : List Int)).length : Int))) ((R80_1 N (R80_0 N m) N (Sl80b c0 l1 k5_a false (0 : Int))))
      (some true)) := by kernel_rfl
theorem ql80a (N : Nat) (c0 : Int × List (List Int) × Unit) (l1 : List (List Int)) : ∀ (m : Nat) (k5_a : Int), R80_0 N m (Sl80a c0 l1 k5_a) = l80a N c0 l1 m k5_a
        | 0, _ => rfl
        | m + 1, k5_a => by rw [wl80a]; simp only [l80a, ql80b, ql80a N c0 l1 m]
def m80 (N : Nat) (c0 : Int × List (List Int) × Unit) (l1 : List (List Int)) : Option (Bool) :=
      (l80a N c0 l1 N (0 : Int))
theorem wm80 (N : Nat) (c0 : Int × List (List Int) × Unit) (l1 : List (List Int)) : callF (E80) lv80 N en80 c80 (resOf Tryd.f80) 69 [.dv (.pair (.int .i64) (.pair (.sl (.sl (.int .i64))) (.unit))) c0, .dv (.sl (.sl (.int .i64))) l1] [] dec80 = (R80_0 N N (Sl80a c0 l1 (0 : Int))) := by kernel_rfl
theorem k80 (N : Nat) (c0 : Int × List (List Int) × Unit) (l1 : List (List Int)) : callF (E80) lv80 N en80 c80 (resOf Tryd.f80) 69 [.dv (.pair (.int .i64) (.pair (.sl (.sl (.int .i64))) (.unit))) c0, .dv (.sl (.sl (.int .i64))) l1] [] dec80 = m80 N c0 l1 := by rw [wm80]; simp only [m80, ql80a]
theorem ok80 (a : Y80) (h : ∀ c0 l1 r, a c0 l1 = some r → (∃ N, m80 N c0 l1 = some r)) : FnOk Tryd.prog 80 (F80 a) := by
  intro args Of x hx
  simp only [F80] at hx
  split at hx
  · rename_i c0 l1
    obtain ⟨N, hN⟩ := h _ _ _ hx
    refine lifted (L := []) (rc := nrc) (fz := nfz) (fn := Tryd.f80) (by kernel_rfl) (by kernel_rfl) (by kernel_rfl) (by kernel_rfl) rfl ?_ ((k80 N _ _).trans hN) ?_
    · intro p hp; cases hp
    · intro l o hd
      simp only [dec80] at hd
      split at hd
      · obtain rfl := Option.some.inj hd; exact ⟨rfl, rfl⟩
      · cases hd
  · cases hx
def E37 (a23 : Y23) (a69 : Y69) (a79 : Y79) (a80 : Y80) : Env := mkE TI TY [(23, F23 a23), (69, F69 a69), (79, F79 a79), (80, F80 a80)] nrc nfz
noncomputable def c37 : Code := bodyOf Tryd.f37
def nm37_0 : Norm := ⟨[1, 4, 5], [1], [], []⟩
def nm37_1 : Norm := ⟨[1, 4, 5, 6], [1], [], []⟩
def nm37_2 : Norm := ⟨[1, 8], [1], [], []⟩
def nm37_3 : Norm := ⟨[1, 8, 9], [1], [], []⟩
def nm37_4 : Norm := ⟨[1, 8, 9, 10], [1], [], []⟩
def lv37 : Nat → Option Norm := norms [(6, nm37_0), (9, nm37_1), (15, nm37_2), (18, nm37_3), (21, nm37_4)]
def en37 : End := ⟨[], ⟨[84], [], [], []⟩⟩
def dec37 (l : List TV) (o : List (Nat × TO)) : Option (Int) := match l, o with | [.dv (.int .i64) x0], [] => some (x0) | _, _ => none
def Sl37b (c0 : Int × List (List Int) × Unit) (r2 : List (List Int)) (i5_a : Int) (k6_b : Int) : TS := ⟨slots 84 [(1, .ptr 1 0 []), (4, .dv (.sl (.sl (.int .i64))) r2), (5, .dv (.int .i64) i5_a), (6, .dv (.int .i64) k6_b)], [(1, .row (.pair (.int .i64) (.pair (.sl (.sl (.int .i64))) (.unit))) ([c0] : List Cd))]⟩
def Sl37e (c0 : Int × List (List Int) × Unit) (x8_c : Int) (y9_d : Int) (z10_e : Int) : TS := ⟨slots 84 [(1, .ptr 1 0 []), (8, .dv (.int .i64) x8_c), (9, .dv (.int .i64) y9_d), (10, .dv (.int .i64) z10_e)], [(1, .row (.pair (.int .i64) (.pair (.sl (.sl (.int .i64))) (.unit))) ([c0] : List Cd))]⟩
def Sl37d (c0 : Int × List (List Int) × Unit) (x8_c : Int) (y9_d : Int) : TS := ⟨slots 84 [(1, .ptr 1 0 []), (8, .dv (.int .i64) x8_c), (9, .dv (.int .i64) y9_d)], [(1, .row (.pair (.int .i64) (.pair (.sl (.sl (.int .i64))) (.unit))) ([c0] : List Cd))]⟩
def Sl37c (c0 : Int × List (List Int) × Unit) (x8_c : Int) : TS := ⟨slots 84 [(1, .ptr 1 0 []), (8, .dv (.int .i64) x8_c)], [(1, .row (.pair (.int .i64) (.pair (.sl (.sl (.int .i64))) (.unit))) ([c0] : List Cd))]⟩
def Sl37a (c0 : Int × List (List Int) × Unit) (r2 : List (List Int)) (i5_a : Int) : TS := ⟨slots 84 [(1, .ptr 1 0 []), (4, .dv (.sl (.sl (.int .i64))) r2), (5, .dv (.int .i64) i5_a)], [(1, .row (.pair (.int .i64) (.pair (.sl (.sl (.int .i64))) (.unit))) ([c0] : List Cd))]⟩
noncomputable def K37_0 (a23 : Y23) (a69 : Y69) (a79 : Y79) (a80 : Y80) (N : Nat) : Kont (Int) := kont (E37 a23 a69 a79 a80) lv37 N c37 [1, 1, 1, 1, 0, 1, 0] (fin TI en37 (resOf Tryd.f37) dec37)
noncomputable def R37_0 (a23 : Y23) (a69 : Y69) (a79 : Y79) (a80 : Y80) (N : Nat) (m : Nat) : TS → Option (Int) := loopK (den (E37 a23 a69 a79 a80) lv37 N (sub c37 [1, 1, 1, 1, 0, 1, 0, 0])) (TS.norm nm37_0) (K37_0 a23 a69 a79 a80 N) m
noncomputable def K37_1 (a23 : Y23) (a69 : Y69) (a79 : Y79) (a80 : Y80) (N : Nat) (T37_0 : TS → Option (Int)) : Kont (Int) := kont (E37 a23 a69 a79 a80) lv37 N (sub c37 [1, 1, 1, 1, 0, 1, 0, 0]) [1, 0, 0, 1, 0] (kloop (TS.norm nm37_0) (K37_0 a23 a69 a79 a80 N) T37_0)
noncomputable def R37_1 (a23 : Y23) (a69 : Y69) (a79 : Y79) (a80 : Y80) (N : Nat) (T37_0 : TS → Option (Int)) (m : Nat) : TS → Option (Int) := loopK (den (E37 a23 a69 a79 a80) lv37 N (sub c37 [1, 1, 1, 1, 0, 1, 0, 0, 1, 0, 0, 1, 0, 0])) (TS.norm nm37_1) (K37_1 a23 a69 a79 a80 N T37_0) m
noncomputable def K37_2 (a23 : Y23) (a69 : Y69) (a79 : Y79) (a80 : Y80) (N : Nat) : Kont (Int) := kont (E37 a23 a69 a79 a80) lv37 N c37 [1, 1, 1, 1, 1, 0, 1, 0] (fin TI en37 (resOf Tryd.f37) dec37)
noncomputable def R37_2 (a23 : Y23) (a69 : Y69) (a79 : Y79) (a80 : Y80) (N : Nat) (m : Nat) : TS → Option (Int) := loopK (den (E37 a23 a69 a79 a80) lv37 N (sub c37 [1, 1, 1, 1, 1, 0, 1, 0, 0])) (TS.norm nm37_2) (K37_2 a23 a69 a79 a80 N) m
noncomputable def K37_3 (a23 : Y23) (a69 : Y69) (a79 : Y79) (a80 : Y80) (N : Nat) (T37_2 : TS → Option (Int)) : Kont (Int) := kont (E37 a23 a69 a79 a80) lv37 N (sub c37 [1, 1, 1, 1, 1, 0, 1, 0, 0]) [1, 0, 0, 1, 0] (kloop (TS.norm nm37_2) (K37_2 a23 a69 a79 a80 N) T37_2)
noncomputable def R37_3 (a23 : Y23) (a69 : Y69) (a79 : Y79) (a80 : Y80) (N : Nat) (T37_2 : TS → Option (Int)) (m : Nat) : TS → Option (Int) := loopK (den (E37 a23 a69 a79 a80) lv37 N (sub c37 [1, 1, 1, 1, 1, 0, 1, 0, 0, 1, 0, 0, 1, 0, 0])) (TS.norm nm37_3) (K37_3 a23 a69 a79 a80 N T37_2) m
noncomputable def K37_4 (a23 : Y23) (a69 : Y69) (a79 : Y79) (a80 : Y80) (N : Nat) (T37_2 : TS → Option (Int)) (T37_3 : TS → Option (Int)) : Kont (Int) := kont (E37 a23 a69 a79 a80) lv37 N (sub c37 [1, 1, 1, 1, 1, 0, 1, 0, 0, 1, 0, 0, 1, 0, 0]) [1, 0, 0, 1, 0] (kloop (TS.norm nm37_3) (K37_3 a23 a69 a79 a80 N T37_2) T37_3)
noncomputable def R37_4 (a23 : Y23) (a69 : Y69) (a79 : Y79) (a80 : Y80) (N : Nat) (T37_2 : TS → Option (Int)) (T37_3 : TS → Option (Int)) (m : Nat) : TS → Option (Int) := loopK (den (E37 a23 a69 a79 a80) lv37 N (sub c37 [1, 1, 1, 1, 1, 0, 1, 0, 0, 1, 0, 0, 1, 0, 0, 1, 0, 0, 1, 0, 0])) (TS.norm nm37_4) (K37_4 a23 a69 a79 a80 N T37_2 T37_3) m
def l37b (a23 : Y23) (a69 : Y69) (a79 : Y79) (a80 : Y80) (N : Nat) (c0 : Int × List (List Int) × Unit) (r2 : List (List Int)) (i5_a : Int) (rec_l37a : Int → Option (Int)) : Nat → Int → Option (Int)
  | 0, _ => none
  | n + 1, k6_b => cond (decide (k6_b < i5_a)) (chk (decide (0 ≤ k6_b ∧ k6_b < (r2.length : Int))) (chk (decide (0 ≤ i5_a ∧ i5_a < (r2.length : Int))) ((a79 c0 ([r2.getD k6_b.toNat ([] : List Int), r2.getD i5_a.toNat ([] : List Int)] : List (List Int))).bind fun r3 =>
      cond (!r3) ((a80 c0 ([r2.getD k6_b.toNat ([] : List Int), r2.getD i5_a.toNat ([] : List Int)] : List (List Int))).bind fun r4 =>
      cond (r4) (some (0 : Int))
      ((l37b a23 a69 a79 a80 N c0 r2 i5_a rec_l37a n (w64 (k6_b + (1 : Int))))))
      ((l37b a23 a69 a79 a80 N c0 r2 i5_a rec_l37a n (w64 (k6_b + (1 : Int))))))))
      ((rec_l37a (w64 (i5_a + (1 : Int)))))
theorem wl37b (a23 : Y23) (a69 : Y69) (a79 : Y79) (a80 : Y80) (N : Nat) (c0 : Int × List (List Int) × Unit) (r2 : List (List Int)) (i5_a : Int) (T37_0 : TS → Option (Int)) (m : Nat) (k6_b : Int) : R37_1 a23 a69 a79 a80 N T37_0 (m + 1) (Sl37b c0 r2 i5_a k6_b) = cond (decide (k6_b < i5_a)) (chk (decide (0 ≤ k6_b ∧ k6_b < (r2.length : Int))) (chk (decide (0 ≤ i5_a ∧ i5_a < (r2.length : Int))) ((a79 c0 ([r2.getD k6_b.toNat ([] : List Int), r2.getD i5_a.toNat ([] : List Int)] : List (List Int))).bind fun r3 =>
      cond (!r3) ((a80 c0 ([r2.getD k6_b.toNat ([] : List Int), r2.getD i5_a.toNat ([] : List Int)] : List (List Int))).bind fun r4 =>
      cond (r4) (some (0 : Int))
      ((R37_1 a23 a69 a79 a80 N T37_0 m (Sl37b c0 r2 i5_a (w64 (k6_b + (1 : Int)))))))
      ((R37_1 a23 a69 a79 a80 N T37_0 m (Sl37b c0 r2 i5_a (w64 (k6_b + (1 : Int)))))))))
      ((T37_0 (Sl37a c0 r2 (w64 (i5_a + (1 : Int)))))) := by kernel_rfl
theorem ql37b (a23 : Y23) (a69 : Y69) (a79 : Y79) (a80 : Y80) (N : Nat) (c0 : Int × List (List Int) × Unit) (r2 : List (List Int)) (i5_a : Int) (T37_0 : TS → Option (Int)) : ∀ (m : Nat) (k6_b : Int), R37_1 a23 a69 a79 a80 N T37_0 m (Sl37b c0 r2 i5_a k6_b) = l37b a23 a69 a79 a80 N c0 r2 i5_a (fun y0 => T37_0 (Sl37a c0 r2 y0)) m k6_b
        | 0, _ => rfl
        | m + 1, k6_b => by rw [wl37b]; simp only [l37b, ql37b a23 a69 a79 a80 N c0 r2 i5_a T37_0 m]
def l37e (a23 : Y23) (a69 : Y69) (a79 : Y79) (a80 : Y80) (N : Nat) (c0 : Int × List (List Int) × Unit) (x8_c : Int) (y9_d : Int) (rec_l37d : Int → Option (Int)) : Nat → Int → Option (Int)
  | 0, _ => none
  | n + 1, z10_e => cond (decide (z10_e < (c0.2.1.length : Int))) ((a80 c0 ([([x8_c, y9_d] : List Int), ([x8_c, z10_e] : List Int), ([y9_d, z10_e] : List Int)] : List (List Int))).bind fun r5 =>
      cond (r5) (some (0 : Int))
      ((l37e a23 a69 a79 a80 N c0 x8_c y9_d rec_l37d n (w64 (z10_e + (1 : Int))))))
      ((rec_l37d (w64 (y9_d + (1 : Int)))))
theorem wl37e (a23 : Y23) (a69 : Y69) (a79 : Y79) (a80 : Y80) (N : Nat) (c0 : Int × List (List Int) × Unit) (x8_c : Int) (y9_d : Int) (T37_2 : TS → Option (Int)) (T37_3 : TS → Option (Int)) (m : Nat) (z10_e : Int) : R37_4 a23 a69 a79 a80 N T37_2 T37_3 (m + 1) (Sl37e c0 x8_c y9_d z10_e) = cond (decide (z10_e < (c0.2.1.length : Int))) ((a80 c0 ([([x8_c, y9_d] : List Int), ([x8_c, z10_e] : List Int), ([y9_d, z10_e] : List Int)] : List (List Int))).bind fun r5 =>
      cond (r5) (some (0 : Int))
      ((R37_4 a23 a69 a79 a80 N T37_2 T37_3 m (Sl37e c0 x8_c y9_d (w64 (z10_e + (1 : Int)))))))
      ((T37_3 (Sl37d c0 x8_c (w64 (y9_d + (1 : Int)))))) := by kernel_rfl
theorem ql37e (a23 : Y23) (a69 : Y69) (a79 : Y79) (a80 : Y80) (N : Nat) (c0 : Int × List (List Int) × Unit) (x8_c : Int) (y9_d : Int) (T37_2 : TS → Option (Int)) (T37_3 : TS → Option (Int)) : ∀ (m : Nat) (z10_e : Int), R37_4 a23 a69 a79 a80 N T37_2 T37_3 m (Sl37e c0 x8_c y9_d z10_e) = l37e a23 a69 a79 a80 N c0 x8_c y9_d (fun y0 => T37_3 (Sl37d c0 x8_c y0)) m z10_e
        | 0, _ => rfl
        | m + 1, z10_e => by rw [wl37e]; simp only [l37e, ql37e a23 a69 a79 a80 N c0 x8_c y9_d T37_2 T37_3 m]
def l37d (a23 : Y23) (a69 : Y69) (a79 : Y79) (a80 : Y80) (N : Nat) (c0 : Int × List (List Int) × Unit) (x8_c : Int) (rec_l37c : Int → Option (Int)) : Nat → Int → Option (Int)
  | 0, _ => none
  | n + 1, y9_d => cond (decide (y9_d < (c0.2.1.length : Int))) ((l37e a23 a69 a79 a80 N c0 x8_c y9_d (fun y0 => (l37d a23 a69 a79 a80 N c0 x8_c rec_l37c n y0)) N (w64 (y9_d + (1 : Int)))))
      ((rec_l37c (w64 (x8_c + (1 : Int)))))
theorem wl37d (a23 : Y23) (a69 : Y69) (a79 : Y79) (a80 : Y80) (N : Nat) (c0 : Int × List (List Int) × Unit) (x8_c : Int) (T37_2 : TS → Option (Int)) (m : Nat) (y9_d : Int) : R37_3 a23 a69 a79 a80 N T37_2 (m + 1) (Sl37d c0 x8_c y9_d) = cond (decide (y9_d < (c0.2.1.length : Int))) ((R37_4 a23 a69 a79 a80 N T37_2 (R37_3 a23 a69 a79 a80 N T37_2 m) N (Sl37e c0 x8_c y9_d (w64 (y9_d + (1 : Int))))))
      ((T37_2 (Sl37c c0 (w64 (x8_c + (1 : Int)))))) := by kernel_rfl
theorem ql37d (a23 : Y23) (a69 : Y69) (a79 : Y79) (a80 : Y80) (N : Nat) (c0 : Int × List (List Int) × Unit) (x8_c : Int) (T37_2 : TS → Option (Int)) : ∀ (m : Nat) (y9_d : Int), R37_3 a23 a69 a79 a80 N T37_2 m (Sl37d c0 x8_c y9_d) = l37d a23 a69 a79 a80 N c0 x8_c (fun y0 => T37_2 (Sl37c c0 y0)) m y9_d
        | 0, _ => rfl
        | m + 1, y9_d => by rw [wl37d]; simp only [l37d, ql37e, ql37d a23 a69 a79 a80 N c0 x8_c T37_2 m]
def l37c (a23 : Y23) (a69 : Y69) (a79 : Y79) (a80 : Y80) (N : Nat) (c0 : Int × List (List Int) × Unit) : Nat → Int → Option (Int)
  | 0, _ => none
  | n + 1, x8_c => cond (decide (x8_c < (c0.2.1.length : Int))) ((l37d a23 a69 a79 a80 N c0 x8_c (fun y0 => (l37c a23 a69 a79 a80 N c0 n y0)) N (w64 (x8_c + (1 : Int)))))
      (some (14 : Int))
theorem wl37c (a23 : Y23) (a69 : Y69) (a79 : Y79) (a80 : Y80) (N : Nat) (c0 : Int × List (List Int) × Unit) (m : Nat) (x8_c : Int) : R37_2 a23 a69 a79 a80 N (m + 1) (Sl37c c0 x8_c) = cond (decide (x8_c < (c0.2.1.length : Int))) ((R37_3 a23 a69 a79 a80 N (R37_2 a23 a69 a79 a80 N m) N (Sl37d c0 x8_c (w64 (x8_c + (1 : Int))))))
      (some (14 : Int)) := by kernel_rfl
theorem ql37c (a23 : Y23) (a69 : Y69) (a79 : Y79) (a80 : Y80) (N : Nat) (c0 : Int × List (List Int) × Unit) : ∀ (m : Nat) (x8_c : Int), R37_2 a23 a69 a79 a80 N m (Sl37c c0 x8_c) = l37c a23 a69 a79 a80 N c0 m x8_c
        | 0, _ => rfl
        | m + 1, x8_c => by rw [wl37c]; simp only [l37c, ql37d, ql37c a23 a69 a79 a80 N c0 m]
def l37a (a23 : Y23) (a69 : Y69) (a79 : Y79) (a80 : Y80) (N : Nat) (c0 : Int × List (List Int) × Unit) (r2 : List (List Int)) : Nat → Int → Option (Int)
  | 0, _ => none
  | n + 1, i5_a => cond (decide (i5_a < (r2.length : Int))) ((l37b a23 a69 a79 a80 N c0 r2 i5_a (fun y0 => (l37a a23 a69 a79 a80 N c0 r2 n y0)) N (0 : Int)))
      ((l37c a23 a69 a79 a80 N c0 N (0 : Int)))
theorem wl37a (a23 : Y23) (a69 : Y69) (a79 : Y79) (a80 : Y80) (N : Nat) (c0 : Int × List (List Int) × Unit) (r2 : List (List Int)) (m : Nat) (i5_a : Int) : R37_0 a23 a69 a79 a80 N (m + 1) (Sl37a c0 r2 i5_a) = cond (decide (i5_a < (r2.length : Int))) ((R37_1 a23 a69 a79 a80 N (R37_0 a23 a69 a79 a80 N m) N (Sl37b c0 r2 i5_a (0 : Int))))
      ((R37_2 a23 a69 a79 a80 N N (Sl37c c0 (0 : Int)))) := by kernel_rfl
theorem ql37a (a23 : Y23) (a69 : Y69) (a79 : Y79) (a80 : Y80) (N : Nat) (c0 : Int × List (List Int) × Unit) (r2 : List (List Int)) : ∀ (m : Nat) (i5_a : Int), R37_0 a23 a69 a79 a80 N m (Sl37a c0 r2 i5_a) = l37a a23 a69 a79 a80 N c0 r2 m i5_a
        | 0, _ => rfl
        | m + 1, i5_a => by rw [wl37a]; simp only [l37a, ql37b, ql37c, ql37a a23 a69 a79 a80 N c0 r2 m]
def m37 (a23 : Y23) (a69 : Y69) (a79 : Y79) (a80 : Y80) (N : Nat) (c0 : Int × List (List Int) × Unit) : Option (Int) :=
      (a23 c0).bind fun r1 =>
      cond (r1 != (0 : Int)) (some r1)
      ((a69 c0 (2 : Int)).bind fun r2 =>
      (l37a a23 a69 a79 a80 N c0 r2 N (0 : Int)))
theorem wm37 (a23 : Y23) (a69 : Y69) (a79 : Y79) (a80 : Y80) (N : Nat) (c0 : Int × List (List Int) × Unit) : callF (E37 a23 a69 a79 a80) lv37 N en37 c37 (resOf Tryd.f37) 83 [.dv (.pair (.int .i64) (.pair (.sl (.sl (.int .i64))) (.unit))) c0] [] dec37 = (a23 c0).bind fun r1 =>
      cond (r1 != (0 : Int)) (some r1)
      ((a69 c0 (2 : Int)).bind fun r2 =>
      (R37_0 a23 a69 a79 a80 N N (Sl37a c0 r2 (0 : Int)))) := by kernel_rfl
theorem k37 (a23 : Y23) (a69 : Y69) (a79 : Y79) (a80 : Y80) (N : Nat) (c0 : Int × List (List Int) × Unit) : callF (E37 a23 a69 a79 a80) lv37 N en37 c37 (resOf Tryd.f37) 83 [.dv (.pair (.int .i64) (.pair (.sl (.sl (.int .i64))) (.unit))) c0] [] dec37 = m37 a23 a69 a79 a80 N c0 := by rw [wm37]; simp only [m37, ql37a]
theorem ok37 (a23 : Y23) (a69 : Y69) (a79 : Y79) (a80 : Y80) (h23 : FnOk Tryd.prog 23 (F23 a23)) (h69 : FnOk Tryd.prog 69 (F69 a69)) (h79 : FnOk Tryd.prog 79 (F79 a79)) (h80 : FnOk Tryd.prog 80 (F80 a80)) (a : Y37) (h : ∀ c0 r, a c0 = some r → (∃ N, m37 a23 a69 a79 a80 N c0 = some r)) : FnOk Tryd.prog 37 (F37 a) := by
  intro args Of x hx
  simp only [F37] at hx
  split at hx
  · rename_i c0
    obtain ⟨N, hN⟩ := h _ _ hx
    refine lifted (L := [(23, F23 a23), (69, F69 a69), (79, F79 a79), (80, F80 a80)]) (rc := nrc) (fz := nfz) (fn := Tryd.f37) (by kernel_rfl) (by kernel_rfl) (by kernel_rfl) (by kernel_rfl) rfl ?_ ((k37 a23 a69 a79 a80 N _).trans hN) ?_
    · intro p hp; simp only [List.mem_cons, List.not_mem_nil, or_false] at hp; rcases hp with rfl | rfl | rfl | rfl
      · exact h23
      · exact h69
      · exact h79
      · exact h80
    · intro l o hd
      simp only [dec37] at hd
      split at hd
      · obtain rfl := Option.some.inj hd; exact ⟨rfl, rfl⟩
      · cases hd
  · cases hx
def E39 (a23 : Y23) (a57 : Y57) (a60 : Y60) (a61 : Y61) (a79 : Y79) : Env := mkE TI TY [(23, F23 a23), (57, F57 a57), (60, F60 a60), (61, F61 a61), (79, F79 a79)] nrc nfz
noncomputable def c39 : Code := bodyOf Tryd.f39
def nm39_0 : Norm := ⟨[2, 3, 6], [2, 3], [], []⟩
def lv39 : Nat → Option Norm := norms [(11, nm39_0)]
def en39 : End := ⟨[], ⟨[80], [], [], []⟩⟩
def dec39 (l : List TV) (o : List (Nat × TO)) : Option (Int) := match l, o with | [.dv (.int .i64) x0], [] => some (x0) | _, _ => none
def Sl39a (c0 : Int × List (List Int) × Unit) (d1 : List Int × List (List Int) × Unit) (i6_a : Int) : TS := ⟨slots 80 [(2, .ptr 2 0 []), (3, .ptr 3 0 []), (6, .dv (.int .i64) i6_a)], [(2, .row (.pair (.int .i64) (.pair (.sl (.sl (.int .i64))) (.unit))) ([c0] : List Cd)), (3, .row (.pair (.sl (.int .i64)) (.pair (.sl (.sl (.int .i64))) (.unit))) ([d1] : List Db))]⟩
noncomputable def K39_0 (a23 : Y23) (a57 : Y57) (a60 : Y60) (a61 : Y61) (a79 : Y79) (N : Nat) : Kont (Int) := kont (E39 a23 a57 a60 a61 a79) lv39 N c39 [1, 1, 1, 1, 1, 1, 0, 1, 0] (fin TI en39 (resOf Tryd.f39) dec39)
noncomputable def R39_0 (a23 : Y23) (a57 : Y57) (a60 : Y60) (a61 : Y61) (a79 : Y79) (N : Nat) (m : Nat) : TS → Option (Int) := loopK (den (E39 a23 a57 a60 a61 a79) lv39 N (sub c39 [1, 1, 1, 1, 1, 1, 0, 1, 0, 0])) (TS.norm nm39_0) (K39_0 a23 a57 a60 a61 a79 N) m
def l39a (a23 : Y23) (a57 : Y57) (a60 : Y60) (a61 : Y61) (a79 : Y79) (N : Nat) (c0 : Int × List (List Int) × Unit) (d1 : List Int × List (List Int) × Unit) : Nat → Int → Option (Int)
  | 0, _ => none
  | n + 1, i6_a => cond (decide (i6_a < (d1.2.1.length : Int))) (chk (decide (0 ≤ i6_a ∧ i6_a < (d1.2.1.length : Int))) ((a57 c0 (d1.2.1.getD i6_a.toNat ([] : List Int))).bind fun r3 =>
      cond (r3 == (0 : Int)) (chk (decide (0 ≤ i6_a ∧ i6_a < (d1.2.1.length : Int))) (cond (decide (((d1.2.1.getD i6_a.toNat ([] : List Int)).length : Int) > (2 : Int))) (some (2 : Int))
      (cond (r3 == (0 : Int)) (chk (decide (0 ≤ i6_a ∧ i6_a < (d1.2.1.length : Int))) ((a61 c0 (d1.2.1.getD i6_a.toNat ([] : List Int)) d1.1).bind fun r4 =>
      cond (!r4) (some (13 : Int))
      (cond (r3 != (0 : Int)) (some r3)
      ((l39a a23 a57 a60 a61 a79 N c0 d1 n (w64 (i6_a + (1 : Int))))))))
      (cond (r3 != (0 : Int)) (some r3)
      ((l39a a23 a57 a60 a61 a79 N c0 d1 n (w64 (i6_a + (1 : Int)))))))))
      (cond (r3 == (0 : Int)) (chk (decide (0 ≤ i6_a ∧ i6_a < (d1.2.1.length : Int))) ((a61 c0 (d1.2.1.getD i6_a.toNat ([] : List Int)) d1.1).bind fun r5 =>
      cond (!r5) (some (13 : Int))
      (cond (r3 != (0 : Int)) (some r3)
      ((l39a a23 a57 a60 a61 a79 N c0 d1 n (w64 (i6_a + (1 : Int))))))))
      (cond (r3 != (0 : Int)) (some r3)
      ((l39a a23 a57 a60 a61 a79 N c0 d1 n (w64 (i6_a + (1 : Int)))))))))
      ((a79 c0 d1.2.1).bind fun r6 =>
      cond (r6) (some (12 : Int))
      (some (0 : Int)))
theorem wl39a (a23 : Y23) (a57 : Y57) (a60 : Y60) (a61 : Y61) (a79 : Y79) (N : Nat) (c0 : Int × List (List Int) × Unit) (d1 : List Int × List (List Int) × Unit) (m : Nat) (i6_a : Int) : R39_0 a23 a57 a60 a61 a79 N (m + 1) (Sl39a c0 d1 i6_a) = cond (decide (i6_a < (d1.2.1.length : Int))) (chk (decide (0 ≤ i6_a ∧ i6_a < (d1.2.1.length : Int))) ((a57 c0 (d1.2.1.getD i6_a.toNat ([] : List Int))).bind fun r3 =>
      cond (r3 == (0 : Int)) (chk (decide (0 ≤ i6_a ∧ i6_a < (d1.2.1.length : Int))) (cond (decide (((d1.2.1.getD i6_a.toNat ([] : List Int)).length : Int) > (2 : Int))) (some (2 : Int))
      (cond (r3 == (0 : Int)) (chk (decide (0 ≤ i6_a ∧ i6_a < (d1.2.1.length : Int))) ((a61 c0 (d1.2.1.getD i6_a.toNat ([] : List Int)) d1.1).bind fun r4 =>
      cond (!r4) (some (13 : Int))
      (cond (r3 != (0 : Int)) (some r3)
      ((R39_0 a23 a57 a60 a61 a79 N m (Sl39a c0 d1 (w64 (i6_a + (1 : Int)))))))))
      (cond (r3 != (0 : Int)) (some r3)
      ((R39_0 a23 a57 a60 a61 a79 N m (Sl39a c0 d1 (w64 (i6_a + (1 : Int))))))))))
      (cond (r3 == (0 : Int)) (chk (decide (0 ≤ i6_a ∧ i6_a < (d1.2.1.length : Int))) ((a61 c0 (d1.2.1.getD i6_a.toNat ([] : List Int)) d1.1).bind fun r5 =>
      cond (!r5) (some (13 : Int))
      (cond (r3 != (0 : Int)) (some r3)
      ((R39_0 a23 a57 a60 a61 a79 N m (Sl39a c0 d1 (w64 (i6_a + (1 : Int)))))))))
      (cond (r3 != (0 : Int)) (some r3)
      ((R39_0 a23 a57 a60 a61 a79 N m (Sl39a c0 d1 (w64 (i6_a + (1 : Int))))))))))
      ((a79 c0 d1.2.1).bind fun r6 =>
      cond (r6) (some (12 : Int))
      (some (0 : Int))) := by kernel_rfl
theorem ql39a (a23 : Y23) (a57 : Y57) (a60 : Y60) (a61 : Y61) (a79 : Y79) (N : Nat) (c0 : Int × List (List Int) × Unit) (d1 : List Int × List (List Int) × Unit) : ∀ (m : Nat) (i6_a : Int), R39_0 a23 a57 a60 a61 a79 N m (Sl39a c0 d1 i6_a) = l39a a23 a57 a60 a61 a79 N c0 d1 m i6_a
        | 0, _ => rfl
        | m + 1, i6_a => by rw [wl39a]; simp only [l39a, ql39a a23 a57 a60 a61 a79 N c0 d1 m]
def m39 (a23 : Y23) (a57 : Y57) (a60 : Y60) (a61 : Y61) (a79 : Y79) (N : Nat) (c0 : Int × List (List Int) × Unit) (d1 : List Int × List (List Int) × Unit) : Option (Int) :=
      (a23 c0).bind fun r1 =>
      cond (r1 == (0 : Int)) ((a60 c0 d1.1).bind fun r2 =>
      cond (r2 == (0 : Int)) (cond ((d1.2.1.length : Int) == (0 : Int)) (some (1 : Int))
      (cond (r2 == (0 : Int)) (cond (decide ((d1.2.1.length : Int) > (10 : Int))) (some (2 : Int))
      (cond (r2 != (0 : Int)) (some r2)
      ((l39a a23 a57 a60 a61 a79 N c0 d1 N (0 : Int)))))
      (cond (r2 != (0 : Int)) (some r2)
      ((l39a a23 a57 a60 a61 a79 N c0 d1 N (0 : Int))))))
      (cond (r2 == (0 : Int)) (cond (decide ((d1.2.1.length : Int) > (10 : Int))) (some (2 : Int))
      (cond (r2 != (0 : Int)) (some r2)
      ((l39a a23 a57 a60 a61 a79 N c0 d1 N (0 : Int)))))
      (cond (r2 != (0 : Int)) (some r2)
      ((l39a a23 a57 a60 a61 a79 N c0 d1 N (0 : Int))))))
      (cond (r1 == (0 : Int)) (cond ((d1.2.1.length : Int) == (0 : Int)) (some (1 : Int))
      (cond (r1 == (0 : Int)) (cond (decide ((d1.2.1.length : Int) > (10 : Int))) (some (2 : Int))
      (cond (r1 != (0 : Int)) (some r1)
      ((l39a a23 a57 a60 a61 a79 N c0 d1 N (0 : Int)))))
      (cond (r1 != (0 : Int)) (some r1)
      ((l39a a23 a57 a60 a61 a79 N c0 d1 N (0 : Int))))))
      (cond (r1 == (0 : Int)) (cond (decide ((d1.2.1.length : Int) > (10 : Int))) (some (2 : Int))
      (cond (r1 != (0 : Int)) (some r1)
      ((l39a a23 a57 a60 a61 a79 N c0 d1 N (0 : Int)))))
      (cond (r1 != (0 : Int)) (some r1)
      ((l39a a23 a57 a60 a61 a79 N c0 d1 N (0 : Int))))))
theorem wm39 (a23 : Y23) (a57 : Y57) (a60 : Y60) (a61 : Y61) (a79 : Y79) (N : Nat) (c0 : Int × List (List Int) × Unit) (d1 : List Int × List (List Int) × Unit) : callF (E39 a23 a57 a60 a61 a79) lv39 N en39 c39 (resOf Tryd.f39) 78 [.dv (.pair (.int .i64) (.pair (.sl (.sl (.int .i64))) (.unit))) c0, .dv (.pair (.sl (.int .i64)) (.pair (.sl (.sl (.int .i64))) (.unit))) d1] [] dec39 = (a23 c0).bind fun r1 =>
      cond (r1 == (0 : Int)) ((a60 c0 d1.1).bind fun r2 =>
      cond (r2 == (0 : Int)) (cond ((d1.2.1.length : Int) == (0 : Int)) (some (1 : Int))
      (cond (r2 == (0 : Int)) (cond (decide ((d1.2.1.length : Int) > (10 : Int))) (some (2 : Int))
      (cond (r2 != (0 : Int)) (some r2)
      ((R39_0 a23 a57 a60 a61 a79 N N (Sl39a c0 d1 (0 : Int))))))
      (cond (r2 != (0 : Int)) (some r2)
      ((R39_0 a23 a57 a60 a61 a79 N N (Sl39a c0 d1 (0 : Int)))))))
      (cond (r2 == (0 : Int)) (cond (decide ((d1.2.1.length : Int) > (10 : Int))) (some (2 : Int))
      (cond (r2 != (0 : Int)) (some r2)
      ((R39_0 a23 a57 a60 a61 a79 N N (Sl39a c0 d1 (0 : Int))))))
      (cond (r2 != (0 : Int)) (some r2)
      ((R39_0 a23 a57 a60 a61 a79 N N (Sl39a c0 d1 (0 : Int)))))))
      (cond (r1 == (0 : Int)) (cond ((d1.2.1.length : Int) == (0 : Int)) (some (1 : Int))
      (cond (r1 == (0 : Int)) (cond (decide ((d1.2.1.length : Int) > (10 : Int))) (some (2 : Int))
      (cond (r1 != (0 : Int)) (some r1)
      ((R39_0 a23 a57 a60 a61 a79 N N (Sl39a c0 d1 (0 : Int))))))
      (cond (r1 != (0 : Int)) (some r1)
      ((R39_0 a23 a57 a60 a61 a79 N N (Sl39a c0 d1 (0 : Int)))))))
      (cond (r1 == (0 : Int)) (cond (decide ((d1.2.1.length : Int) > (10 : Int))) (some (2 : Int))
      (cond (r1 != (0 : Int)) (some r1)
      ((R39_0 a23 a57 a60 a61 a79 N N (Sl39a c0 d1 (0 : Int))))))
      (cond (r1 != (0 : Int)) (some r1)
      ((R39_0 a23 a57 a60 a61 a79 N N (Sl39a c0 d1 (0 : Int))))))) := by kernel_rfl
theorem k39 (a23 : Y23) (a57 : Y57) (a60 : Y60) (a61 : Y61) (a79 : Y79) (N : Nat) (c0 : Int × List (List Int) × Unit) (d1 : List Int × List (List Int) × Unit) : callF (E39 a23 a57 a60 a61 a79) lv39 N en39 c39 (resOf Tryd.f39) 78 [.dv (.pair (.int .i64) (.pair (.sl (.sl (.int .i64))) (.unit))) c0, .dv (.pair (.sl (.int .i64)) (.pair (.sl (.sl (.int .i64))) (.unit))) d1] [] dec39 = m39 a23 a57 a60 a61 a79 N c0 d1 := by rw [wm39]; simp only [m39, ql39a]
theorem ok39 (a23 : Y23) (a57 : Y57) (a60 : Y60) (a61 : Y61) (a79 : Y79) (h23 : FnOk Tryd.prog 23 (F23 a23)) (h57 : FnOk Tryd.prog 57 (F57 a57)) (h60 : FnOk Tryd.prog 60 (F60 a60)) (h61 : FnOk Tryd.prog 61 (F61 a61)) (h79 : FnOk Tryd.prog 79 (F79 a79)) (a : Y39) (h : ∀ c0 d1 r, a c0 d1 = some r → (∃ N, m39 a23 a57 a60 a61 a79 N c0 d1 = some r)) : FnOk Tryd.prog 39 (F39 a) := by
  intro args Of x hx
  simp only [F39] at hx
  split at hx
  · rename_i c0 d1
    obtain ⟨N, hN⟩ := h _ _ _ hx
    refine lifted (L := [(23, F23 a23), (57, F57 a57), (60, F60 a60), (61, F61 a61), (79, F79 a79)]) (rc := nrc) (fz := nfz) (fn := Tryd.f39) (by kernel_rfl) (by kernel_rfl) (by kernel_rfl) (by kernel_rfl) rfl ?_ ((k39 a23 a57 a60 a61 a79 N _ _).trans hN) ?_
    · intro p hp; simp only [List.mem_cons, List.not_mem_nil, or_false] at hp; rcases hp with rfl | rfl | rfl | rfl | rfl
      · exact h23
      · exact h57
      · exact h60
      · exact h61
      · exact h79
    · intro l o hd
      simp only [dec39] at hd
      split at hd
      · obtain rfl := Option.some.inj hd; exact ⟨rfl, rfl⟩
      · cases hd
  · cases hx
end Go.Proofs.YtbjfbbfglkmadaaDoor
