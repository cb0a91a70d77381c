/-
  The functions that the examples of the chapter reaches, told as plain functions.
-/
import Derived.Test.YtbblnbolabpfmaaQFI
namespace Go.Proofs.Ytbblnbolabpfmaa
open Go.RowKit
set_option linter.unusedVariables false
def E49 : Env := mkE TI TY [] nrc nfz
noncomputable def c49 : Code := bodyOf Try.f49
def lv49 : Nat → Option Norm := norms []
def en49 : End := ⟨[], ⟨[15], [], [], []⟩⟩
def dec49 (l : List TV) (o : List (Nat × TO)) : Option (Bool) := match l, o with | [.dv (.bool) x0], [] => some (x0) | _, _ => none
def m49 (N : Nat) (lo0 : Int) (n1 : Int) (hi2 : Int) : Option (Bool) :=
      cond (decide (lo0 ≤ n1)) (some (decide (n1 ≤ hi2)))
      (some false)
theorem k49 (N : Nat) (lo0 : Int) (n1 : Int) (hi2 : Int) : callF (E49) lv49 N en49 c49 (resOf Try.f49) 12 [.dv (.int .i64) lo0, .dv (.int .i64) n1, .dv (.int .i64) hi2] [] dec49 = m49 N lo0 n1 hi2 := by kernel_rfl
theorem ok49 (a : Int → Int → Int → Option (Bool)) (h : ∀ lo0 n1 hi2 r, a lo0 n1 hi2 = some r → (∃ N, m49 N lo0 n1 hi2 = some r)) : FnOk Try.prog 49 (F49 a) := by
  intro args Of x hx
  simp only [F49] at hx
  split at hx
  · rename_i lo0 n1 hi2
    obtain ⟨N, hN⟩ := h _ _ _ _ hx
    refine lifted (L := []) (rc := nrc) (fz := nfz) (fn := Try.f49) (by kernel_rfl) (by kernel_rfl) (by kernel_rfl) (by kernel_rfl) rfl ?_ ((k49 N _ _ _).trans hN) ?_
    · intro p hp; cases hp
    · intro l o hd
      simp only [dec49] at hd
      split at hd
      · obtain rfl := Option.some.inj hd; exact ⟨rfl, rfl⟩
      · cases hd
  · cases hx
def E59 (a49 : Int → Int → Int → Option (Bool)) : Env := mkE TI TY [(49, F49 a49)] nrc nfz
noncomputable def c59 : Code := bodyOf Try.f59
def lv59 : Nat → Option Norm := norms []
def en59 : End := ⟨[], ⟨[13], [], [], []⟩⟩
def dec59 (l : List TV) (o : List (Nat × TO)) : Option (Bool) := match l, o with | [.dv (.bool) x0], [] => some (x0) | _, _ => none
def m59 (a49 : Int → Int → Int → Option (Bool)) (N : Nat) (o0 : Int × Int × Unit) : Option (Bool) :=
      (a49 (1 : Int) o0.1 (30 : Int)).bind fun r1 =>
      cond (!r1) (some true)
      ((a49 (0 : Int) o0.2.1 (10000 : Int)).bind fun r2 =>
      some (!r2))
theorem k59 (a49 : Int → Int → Int → Option (Bool)) (N : Nat) (o0 : Int × Int × Unit) : callF (E59 a49) lv59 N en59 c59 (resOf Try.f59) 12 [.dv (.pair (.int .i64) (.pair (.int .i64) (.unit))) o0] [] dec59 = m59 a49 N o0 := by kernel_rfl
theorem ok59 (a49 : Int → Int → Int → Option (Bool)) (h49 : FnOk Try.prog 49 (F49 a49)) (a : (Int × Int × Unit) → Option (Bool)) (h : ∀ o0 r, a o0 = some r → (∃ N, m59 a49 N o0 = some r)) : FnOk Try.prog 59 (F59 a) := by
  intro args Of x hx
  simp only [F59] at hx
  split at hx
  · rename_i o0
    obtain ⟨N, hN⟩ := h _ _ hx
    refine lifted (L := [(49, F49 a49)]) (rc := nrc) (fz := nfz) (fn := Try.f59) (by kernel_rfl) (by kernel_rfl) (by kernel_rfl) (by kernel_rfl) rfl ?_ ((k59 a49 N _).trans hN) ?_
    · intro p hp; simp only [List.mem_cons, List.not_mem_nil, or_false] at hp; rcases hp with rfl; exact h49
    · intro l o hd
      simp only [dec59] at hd
      split at hd
      · obtain rfl := Option.some.inj hd; exact ⟨rfl, rfl⟩
      · cases hd
  · cases hx
def E65c59 (a59 : (Int × Int × Unit) → Option (Bool)) : Env := mkE TI TY [(59, F59 a59)] nrc nfz
noncomputable def c65c59 : Code := bodyOf Try.f65
def nm65c59_0 : Norm := ⟨[0, 1, 7, 8], [], [], []⟩
def lv65c59 : Nat → Option Norm := norms [(2, nm65c59_0)]
def en65c59 : End := ⟨[], ⟨[19], [], [], []⟩⟩
def dec65c59 (l : List TV) (o : List (Nat × TO)) : Option (Int) := match l, o with | [.dv (.int .i64) x0], [] => some (x0) | _, _ => none
noncomputable def K65c59_0 (a59 : (Int × Int × Unit) → Option (Bool)) (N : Nat) : Kont (Int) := kont (E65c59 a59) lv65c59 N c65c59 [1, 0, 1, 0] (fin TI en65c59 (resOf Try.f65) dec65c59)
noncomputable def R65c59_0 (a59 : (Int × Int × Unit) → Option (Bool)) (N : Nat) (m : Nat) : TS → Option (Int) := loopK (den (E65c59 a59) lv65c59 N (sub c65c59 [1, 0, 1, 0, 0])) (TS.norm nm65c59_0) (K65c59_0 a59 N) m
def Sl65c59a (s0 : List (Int × Int × Unit)) (t8_a : Int) : TS := ⟨slots 19 [(0, .dv (.sl (.pair (.int .i64) (.pair (.int .i64) (.unit)))) s0), (1, .fn 59 0 0 fun i => ([] : List TV).getD i .any), (7, .dv (.int .i64) (s0.length : Int)), (8, .dv (.int .i64) t8_a)], []⟩
def l65c59a (a59 : (Int × Int × Unit) → Option (Bool)) (N : Nat) (s0 : List (Int × Int × Unit)) : Nat → Int → Option (Int)
  | 0, _ => none
  | n + 1, t8_a => cond (decide (t8_a < (s0.length : Int))) (chk (decide (0 ≤ t8_a ∧ t8_a < (s0.length : Int))) ((a59 (s0.getD t8_a.toNat ((0 : Int), ((0 : Int), ())))).bind fun r1 =>
      cond (r1) (some t8_a)
      ((l65c59a a59 N s0 n (w64 (t8_a + (1 : Int)))))))
      (some (-1 : Int))
theorem wl65c59a (a59 : (Int × Int × Unit) → Option (Bool)) (N : Nat) (s0 : List (Int × Int × Unit)) (m : Nat) (t8_a : Int) : R65c59_0 a59 N (m + 1) (Sl65c59a s0 t8_a) = cond (decide (t8_a < (s0.length : Int))) (chk (decide (0 ≤ t8_a ∧ t8_a < (s0.length : Int))) ((a59 (s0.getD t8_a.toNat ((0 : Int), ((0 : Int), ())))).bind fun r1 =>
      cond (r1) (some t8_a)
      ((R65c59_0 a59 N m (Sl65c59a s0 (w64 (t8_a + (1 : Int))))))))
      (some (-1 : Int)) := by kernel_rfl
theorem ql65c59a (a59 : (Int × Int × Unit) → Option (Bool)) (N : Nat) (s0 : List (Int × Int × Unit)) : ∀ (m : Nat) (t8_a : Int), R65c59_0 a59 N m (Sl65c59a s0 t8_a) = l65c59a a59 N s0 m t8_a
        | 0, _ => rfl
        | m + 1, t8_a => by rw [wl65c59a]; simp only [l65c59a, ql65c59a a59 N s0 m]
def m65c59 (a59 : (Int × Int × Unit) → Option (Bool)) (N : Nat) (s0 : List (Int × Int × Unit)) : Option (Int) :=
      (l65c59a a59 N s0 N (0 : Int))
theorem wm65c59 (a59 : (Int × Int × Unit) → Option (Bool)) (N : Nat) (s0 : List (Int × Int × Unit)) : callF (E65c59 a59) lv65c59 N en65c59 c65c59 (resOf Try.f65) 17 [.dv (.sl (.pair (.int .i64) (.pair (.int .i64) (.unit)))) s0, .fn 59 0 0 fun i => ([] : List TV).getD i .any] [] dec65c59 = (R65c59_0 a59 N N (Sl65c59a s0 (0 : Int))) := by kernel_rfl
theorem k65c59 (a59 : (Int × Int × Unit) → Option (Bool)) (N : Nat) (s0 : List (Int × Int × Unit)) : callF (E65c59 a59) lv65c59 N en65c59 c65c59 (resOf Try.f65) 17 [.dv (.sl (.pair (.int .i64) (.pair (.int .i64) (.unit)))) s0, .fn 59 0 0 fun i => ([] : List TV).getD i .any] [] dec65c59 = m65c59 a59 N s0 := by rw [wm65c59]; simp only [m65c59, ql65c59a]
theorem ok65c59 (a59 : (Int × Int × Unit) → Option (Bool)) (h59 : FnOk Try.prog 59 (F59 a59)) (a : (List (Int × Int × Unit)) → Option (Int)) (h : ∀ s0 r, a s0 = some r → (∃ N, m65c59 a59 N s0 = some r)) : FnOk Try.prog 65 (F65c59 a) := by
  intro args Of x hx
  simp only [F65c59] at hx
  split at hx
  · rename_i s0 f_0 heqc
    have hc0 := congrArg (fun c : List (List TV) => c.getD 0 []) heqc
    obtain ⟨N, hN⟩ := h _ _ hx
    refine HSpec.etaL (args := [.dv (.sl (.pair (.int .i64) (.pair (.int .i64) (.unit)))) s0, .fn 59 0 0 fun i => ([] : List TV).getD i .any]) (O := []) ⟨TV.sim_refl _, TV.sim_fn hc0, trivial⟩ trivial (lifted (L := [(59, F59 a59)]) (rc := nrc) (fz := nfz) (fn := Try.f65) (by kernel_rfl) (by kernel_rfl) (by kernel_rfl) (by kernel_rfl) rfl ?_ ((k65c59 a59 N _).trans hN) ?_)
    · intro p hp; simp only [List.mem_cons, List.not_mem_nil, or_false] at hp; rcases hp with rfl; exact h59
    · intro l o hd
      simp only [dec65c59] at hd
      split at hd
      · obtain rfl := Option.some.inj hd; exact ⟨rfl, rfl⟩
      · cases hd
  · cases hx
def E58c59 (a65c59 : (List (Int × Int × Unit)) → Option (Int)) : Env := mkE TI TY [(65, F65c59 a65c59)] nrc nfz
noncomputable def c58c59 : Code := bodyOf Try.f58
def lv58c59 : Nat → Option Norm := norms []
def en58c59 : End := ⟨[], ⟨[9], [], [], []⟩⟩
def dec58c59 (l : List TV) (o : List (Nat × TO)) : Option (Bool) := match l, o with | [.dv (.bool) x0], [] => some (x0) | _, _ => none
def m58c59 (a65c59 : (List (Int × Int × Unit)) → Option (Int)) (N : Nat) (s0 : List (Int × Int × Unit)) : Option (Bool) :=
      (a65c59 s0).bind fun r1 =>
      some (decide (r1 ≥ (0 : Int)))
theorem k58c59 (a65c59 : (List (Int × Int × Unit)) → Option (Int)) (N : Nat) (s0 : List (Int × Int × Unit)) : callF (E58c59 a65c59) lv58c59 N en58c59 c58c59 (resOf Try.f58) 7 [.dv (.sl (.pair (.int .i64) (.pair (.int .i64) (.unit)))) s0, .fn 59 0 0 fun i => ([] : List TV).getD i .any] [] dec58c59 = m58c59 a65c59 N s0 := by kernel_rfl
theorem ok58c59 (a65c59 : (List (Int × Int × Unit)) → Option (Int)) (h65c59 : FnOk Try.prog 65 (F65c59 a65c59)) (a : (List (Int × Int × Unit)) → Option (Bool)) (h : ∀ s0 r, a s0 = some r → (∃ N, m58c59 a65c59 N s0 = some r)) : FnOk Try.prog 58 (F58c59 a) := by
  intro args Of x hx
  simp only [F58c59] at hx
  split at hx
  · rename_i s0 f_0 heqc
    have hc0 := congrArg (fun c : List (List TV) => c.getD 0 []) heqc
    obtain ⟨N, hN⟩ := h _ _ hx
    refine HSpec.etaL (args := [.dv (.sl (.pair (.int .i64) (.pair (.int .i64) (.unit)))) s0, .fn 59 0 0 fun i => ([] : List TV).getD i .any]) (O := []) ⟨TV.sim_refl _, TV.sim_fn hc0, trivial⟩ trivial (lifted (L := [(65, F65c59 a65c59)]) (rc := nrc) (fz := nfz) (fn := Try.f58) (by kernel_rfl) (by kernel_rfl) (by kernel_rfl) (by kernel_rfl) rfl ?_ ((k58c59 a65c59 N _).trans hN) ?_)
    · intro p hp; simp only [List.mem_cons, List.not_mem_nil, or_false] at hp; rcases hp with rfl; exact h65c59
    · intro l o hd
      simp only [dec58c59] at hd
      split at hd
      · obtain rfl := Option.some.inj hd; exact ⟨rfl, rfl⟩
      · cases hd
  · cases hx
def E23 (a58c59 : (List (Int × Int × Unit)) → Option (Bool)) : Env := mkE TI TY [(58, F58c59 a58c59)] nrc nfz
noncomputable def c23 : Code := bodyOf Try.f23
def lv23 : Nat → Option Norm := norms []
def en23 : End := ⟨[], ⟨[14], [], [], []⟩⟩
def dec23 (l : List TV) (o : List (Nat × TO)) : Option (Int) := match l, o with | [.dv (.int .i64) x0], [] => some (x0) | _, _ => none
def m23 (a58c59 : (List (Int × Int × Unit)) → Option (Bool)) (N : Nat) (l0 : List (Int × Int × Unit)) : Option (Int) :=
      cond ((l0.length : Int) == (0 : Int)) (some (1 : Int))
      (cond (decide ((l0.length : Int) > (12 : Int))) (some (2 : Int))
      ((a58c59 l0).bind fun r1 =>
      cond (r1) (some (4 : Int))
      (some (0 : Int))))
theorem k23 (a58c59 : (List (Int × Int × Unit)) → Option (Bool)) (N : Nat) (l0 : List (Int × Int × Unit)) : callF (E23 a58c59) lv23 N en23 c23 (resOf Try.f23) 13 [.dv (.sl (.pair (.int .i64) (.pair (.int .i64) (.unit)))) l0] [] dec23 = m23 a58c59 N l0 := by kernel_rfl
theorem ok23 (a58c59 : (List (Int × Int × Unit)) → Option (Bool)) (h58c59 : FnOk Try.prog 58 (F58c59 a58c59)) (a : (List (Int × Int × Unit)) → Option (Int)) (h : ∀ l0 r, a l0 = some r → (∃ N, m23 a58c59 N l0 = some r)) : FnOk Try.prog 23 (F23 a) := by
  intro args Of x hx
  simp only [F23] at hx
  split at hx
  · rename_i l0
    obtain ⟨N, hN⟩ := h _ _ hx
    refine lifted (L := [(58, F58c59 a58c59)]) (rc := nrc) (fz := nfz) (fn := Try.f23) (by kernel_rfl) (by kernel_rfl) (by kernel_rfl) (by kernel_rfl) rfl ?_ ((k23 a58c59 N _).trans hN) ?_
    · intro p hp; simp only [List.mem_cons, List.not_mem_nil, or_false] at hp; rcases hp with rfl; exact h58c59
    · intro l o hd
      simp only [dec23] at hd
      split at hd
      · obtain rfl := Option.some.inj hd; exact ⟨rfl, rfl⟩
      · cases hd
  · cases hx
def E50 (a70c : (List Int) → Option (List Int)) : Env := mkE TI TY [(70, F70c a70c)] nrc nfz
noncomputable def c50 : Code := bodyOf Try.f50
def nm50_0 : Norm := ⟨[0, 13, 14, 15], [], [(.slot 5, 1005, .int .i64)], []⟩
def nm50_1 : Norm := ⟨[30, 31, 32], [1005], [], []⟩
def lv50 : Nat → Option Norm := norms [(3, nm50_0), (9, nm50_1)]
def en50 : End := ⟨[], ⟨[43], [], [], []⟩⟩
def dec50 (l : List TV) (o : List (Nat × TO)) : Option (Int) := match l, o with | [.dv (.int .i64) x0], [] => some (x0) | _, _ => none
noncomputable def K50_0 (a70c : (List Int) → Option (List Int)) (N : Nat) : Kont (Int) := kont (E50 a70c) lv50 N c50 [1, 1, 0, 1, 0] (fin TI en50 (resOf Try.f50) dec50)
noncomputable def R50_0 (a70c : (List Int) → Option (List Int)) (N : Nat) (m : Nat) : TS → Option (Int) := loopK (den (E50 a70c) lv50 N (sub c50 [1, 1, 0, 1, 0, 0])) (TS.norm nm50_0) (K50_0 a70c N) m
noncomputable def K50_1 (a70c : (List Int) → Option (List Int)) (N : Nat) : Kont (Int) := kont (E50 a70c) lv50 N c50 [1, 1, 1, 1, 0, 1, 0] (fin TI en50 (resOf Try.f50) dec50)
noncomputable def R50_1 (a70c : (List Int) → Option (List Int)) (N : Nat) (m : Nat) : TS → Option (Int) := loopK (den (E50 a70c) lv50 N (sub c50 [1, 1, 1, 1, 0, 1, 0, 0])) (TS.norm nm50_1) (K50_1 a70c N) m
def Sl50b (r1 : List Int) (t32_b : Int) : TS := ⟨slots 43 [(30, .row 1005), (31, .dv (.int .i64) (r1.length : Int)), (32, .dv (.int .i64) t32_b)], [(1005, .row (.int .i64) r1)]⟩
def Sl50a (l0 : List (Int × Int × Unit)) (set1 : List Int) (t15_a : Int) (days5_a : List Int) : TS := ⟨slots 43 [(0, .dv (.sl (.pair (.int .i64) (.pair (.int .i64) (.unit)))) l0), (5, .row 1005), (13, .dv (.sl (.int .i64)) set1), (14, .dv (.int .i64) (set1.length : Int)), (15, .dv (.int .i64) t15_a)], [(1005, .row (.int .i64) days5_a)]⟩
def l50b (a70c : (List Int) → Option (List Int)) (N : Nat) (r1 : List Int) : Nat → Int → Option (Int)
  | 0, _ => none
  | n + 1, t32_b => cond (decide (t32_b < (r1.length : Int))) (chk (decide (0 ≤ t32_b ∧ t32_b < (r1.length : Int))) (cond (decide ((w64 (t32_b + (1 : Int))) > (r1.getD t32_b.toNat (0 : Int)))) (some (r1.getD t32_b.toNat (0 : Int)))
      ((l50b a70c N r1 n (w64 (t32_b + (1 : Int)))))))
      (some (0 : Int))
theorem wl50b (a70c : (List Int) → Option (List Int)) (N : Nat) (r1 : List Int) (m : Nat) (t32_b : Int) : R50_1 a70c N (m + 1) (Sl50b r1 t32_b) = cond (decide (t32_b < (r1.length : Int))) (chk (decide (0 ≤ t32_b ∧ t32_b < (r1.length : Int))) (cond (decide ((w64 (t32_b + (1 : Int))) > (r1.getD t32_b.toNat (0 : Int)))) (some (r1.getD t32_b.toNat (0 : Int)))
      ((R50_1 a70c N m (Sl50b r1 (w64 (t32_b + (1 : Int))))))))
      (some (0 : Int)) := by kernel_rfl
theorem ql50b (a70c : (List Int) → Option (List Int)) (N : Nat) (r1 : List Int) : ∀ (m : Nat) (t32_b : Int), R50_1 a70c N m (Sl50b r1 t32_b) = l50b a70c N r1 m t32_b
        | 0, _ => rfl
        | m + 1, t32_b => by rw [wl50b]; simp only [l50b, ql50b a70c N r1 m]
def l50a (a70c : (List Int) → Option (List Int)) (N : Nat) (l0 : List (Int × Int × Unit)) (set1 : List Int) : Nat → Int → (List Int) → Option (Int)
  | 0, _, _ => none
  | n + 1, t15_a, days5_a => cond (decide (t15_a < (set1.length : Int))) (chk (decide (0 ≤ t15_a ∧ t15_a < (set1.length : Int))) (chk (decide (0 ≤ set1.getD t15_a.toNat (0 : Int) ∧ set1.getD t15_a.toNat (0 : Int) < (l0.length : Int))) (chk (small (days5_a.length + 1) 8) ((l50a a70c N l0 set1 n (w64 (t15_a + (1 : Int))) (days5_a ++ ([(l0.getD ((set1.getD t15_a.toNat (0 : Int)).toNat) ((0 : Int), ((0 : Int), ()))).1] : List Int)))))))
      ((a70c days5_a).bind fun r1 =>
      (l50b a70c N r1 N (0 : Int)))
theorem wl50a (a70c : (List Int) → Option (List Int)) (N : Nat) (l0 : List (Int × Int × Unit)) (set1 : List Int) (m : Nat) (t15_a : Int) (days5_a : List Int) : R50_0 a70c N (m + 1) (Sl50a l0 set1 t15_a days5_a) = cond (decide (t15_a < (set1.length : Int))) (chk (decide (0 ≤ t15_a ∧ t15_a < (set1.length : Int))) (chk (decide (0 ≤ set1.getD t15_a.toNat (0 : Int) ∧ set1.getD t15_a.toNat (0 : Int) < (l0.length : Int))) (chk (small (days5_a.length + 1) 8) ((R50_0 a70c N m (Sl50a l0 set1 (w64 (t15_a + (1 : Int))) (days5_a ++ ([(l0.getD ((set1.getD t15_a.toNat (0 : Int)).toNat) ((0 : Int), ((0 : Int), ()))).1] : List Int))))))))
      ((a70c days5_a).bind fun r1 =>
      (R50_1 a70c N N (Sl50b r1 (0 : Int)))) := by kernel_rfl
theorem ql50a (a70c : (List Int) → Option (List Int)) (N : Nat) (l0 : List (Int × Int × Unit)) (set1 : List Int) : ∀ (m : Nat) (t15_a : Int) (days5_a : List Int), R50_0 a70c N m (Sl50a l0 set1 t15_a days5_a) = l50a a70c N l0 set1 m t15_a days5_a
        | 0, _, _ => rfl
        | m + 1, t15_a, days5_a => by rw [wl50a]; simp only [l50a, ql50b, ql50a a70c N l0 set1 m]
def m50 (a70c : (List Int) → Option (List Int)) (N : Nat) (l0 : List (Int × Int × Unit)) (set1 : List Int) : Option (Int) :=
      chk (mkOk (0 : Int) (set1.length : Int) 8) ((l50a a70c N l0 set1 N (0 : Int) (List.replicate 0 (0 : Int))))
theorem wm50 (a70c : (List Int) → Option (List Int)) (N : Nat) (l0 : List (Int × Int × Unit)) (set1 : List Int) : callF (E50 a70c) lv50 N en50 c50 (resOf Try.f50) 41 [.dv (.sl (.pair (.int .i64) (.pair (.int .i64) (.unit)))) l0, .dv (.sl (.int .i64)) set1] [] dec50 = chk (mkOk (0 : Int) (set1.length : Int) 8) ((R50_0 a70c N N (Sl50a l0 set1 (0 : Int) (List.replicate 0 (0 : Int))))) := by kernel_rfl
theorem k50 (a70c : (List Int) → Option (List Int)) (N : Nat) (l0 : List (Int × Int × Unit)) (set1 : List Int) : callF (E50 a70c) lv50 N en50 c50 (resOf Try.f50) 41 [.dv (.sl (.pair (.int .i64) (.pair (.int .i64) (.unit)))) l0, .dv (.sl (.int .i64)) set1] [] dec50 = m50 a70c N l0 set1 := by rw [wm50]; simp only [m50, ql50a]
theorem ok50 (a70c : (List Int) → Option (List Int)) (h70c : FnOk Try.prog 70 (F70c a70c)) (a : (List (Int × Int × Unit)) → (List Int) → Option (Int)) (h : ∀ l0 set1 r, a l0 set1 = some r → (∃ N, m50 a70c N l0 set1 = some r)) : FnOk Try.prog 50 (F50 a) := by
  intro args Of x hx
  simp only [F50] at hx
  split at hx
  · rename_i l0 set1
    obtain ⟨N, hN⟩ := h _ _ _ hx
    refine lifted (L := [(70, F70c a70c)]) (rc := nrc) (fz := nfz) (fn := Try.f50) (by kernel_rfl) (by kernel_rfl) (by kernel_rfl) (by kernel_rfl) rfl ?_ ((k50 a70c N _ _).trans hN) ?_
    · intro p hp; simp only [List.mem_cons, List.not_mem_nil, or_false] at hp; rcases hp with rfl; exact h70c
    · intro l o hd
      simp only [dec50] at hd
      split at hd
      · obtain rfl := Option.some.inj hd; exact ⟨rfl, rfl⟩
      · cases hd
  · cases hx
def E16 (a23 : (List (Int × Int × Unit)) → Option (Int)) (a49 : Int → Int → Int → Option (Bool)) (a50 : (List (Int × Int × Unit)) → (List Int) → Option (Int)) : Env := mkE TI TY [(23, F23 a23), (49, F49 a49), (50, F50 a50)] nrc nfz
noncomputable def c16 : Code := bodyOf Try.f16
def nm16_0 : Norm := ⟨[0, 1, 7, 16, 17, 18], [], [], []⟩
def lv16 : Nat → Option Norm := norms [(6, nm16_0)]
def en16 : End := ⟨[], ⟨[41, 42], [], [], []⟩⟩
def dec16 (l : List TV) (o : List (Nat × TO)) : Option (Int × Int) := match l, o with | [.dv (.int .i64) x0, .dv (.int .i64) x1], [] => some (x0, x1) | _, _ => none
noncomputable def K16_0 (a23 : (List (Int × Int × Unit)) → Option (Int)) (a49 : Int → Int → Int → Option (Bool)) (a50 : (List (Int × Int × Unit)) → (List Int) → Option (Int)) (N : Nat) : Kont (Int × Int) := kont (E16 a23 a49 a50) lv16 N c16 [1, 1, 1, 0, 1, 0] (fin TI en16 (resOf Try.f16) dec16)
noncomputable def R16_0 (a23 : (List (Int × Int × Unit)) → Option (Int)) (a49 : Int → Int → Int → Option (Bool)) (a50 : (List (Int × Int × Unit)) → (List Int) → Option (Int)) (N : Nat) (m : Nat) : TS → Option (Int × Int) := loopK (den (E16 a23 a49 a50) lv16 N (sub c16 [1, 1, 1, 0, 1, 0, 0])) (TS.norm nm16_0) (K16_0 a23 a49 a50 N) m
def Sl16a (l0 : List (Int × Int × Unit)) (set1 : List Int) (last7_a : Int) (t18_a : Int) : TS := ⟨slots 41 [(0, .dv (.sl (.pair (.int .i64) (.pair (.int .i64) (.unit)))) l0), (1, .dv (.sl (.int .i64)) set1), (7, .dv (.int .i64) last7_a), (16, .dv (.sl (.int .i64)) set1), (17, .dv (.int .i64) (set1.length : Int)), (18, .dv (.int .i64) t18_a)], []⟩
def l16a (a23 : (List (Int × Int × Unit)) → Option (Int)) (a49 : Int → Int → Int → Option (Bool)) (a50 : (List (Int × Int × Unit)) → (List Int) → Option (Int)) (N : Nat) (l0 : List (Int × Int × Unit)) (set1 : List Int) : Nat → Int → Int → Option (Int × Int)
  | 0, _, _ => none
  | n + 1, last7_a, t18_a => cond (decide (t18_a < (set1.length : Int))) (chk (decide (0 ≤ t18_a ∧ t18_a < (set1.length : Int))) ((a49 (0 : Int) (set1.getD t18_a.toNat (0 : Int)) (w64 ((l0.length : Int) - (1 : Int)))).bind fun r2 =>
      cond (!r2) (some ((0 : Int), (5 : Int)))
      (cond (decide ((set1.getD t18_a.toNat (0 : Int)) ≤ last7_a)) (some ((0 : Int), (7 : Int)))
      ((l16a a23 a49 a50 N l0 set1 n (set1.getD t18_a.toNat (0 : Int)) (w64 (t18_a + (1 : Int))))))))
      ((a50 l0 set1).bind fun r3 =>
      cond (r3 == (0 : Int)) (some ((0 : Int), (14 : Int)))
      (some (r3, (0 : Int))))
theorem wl16a (a23 : (List (Int × Int × Unit)) → Option (Int)) (a49 : Int → Int → Int → Option (Bool)) (a50 : (List (Int × Int × Unit)) → (List Int) → Option (Int)) (N : Nat) (l0 : List (Int × Int × Unit)) (set1 : List Int) (m : Nat) (last7_a : Int) (t18_a : Int) : R16_0 a23 a49 a50 N (m + 1) (Sl16a l0 set1 last7_a t18_a) = cond (decide (t18_a < (set1.length : Int))) (chk (decide (0 ≤ t18_a ∧ t18_a < (set1.length : Int))) ((a49 (0 : Int) (set1.getD t18_a.toNat (0 : Int)) (w64 ((l0.length : Int) - (1 : Int)))).bind fun r2 =>
      cond (!r2) (some ((0 : Int), (5 : Int)))
      (cond (decide ((set1.getD t18_a.toNat (0 : Int)) ≤ last7_a)) (some ((0 : Int), (7 : Int)))
      ((R16_0 a23 a49 a50 N m (Sl16a l0 set1 (set1.getD t18_a.toNat (0 : Int)) (w64 (t18_a + (1 : Int)))))))))
      ((a50 l0 set1).bind fun r3 =>
      cond (r3 == (0 : Int)) (some ((0 : Int), (14 : Int)))
      (some (r3, (0 : Int)))) := by kernel_rfl
theorem ql16a (a23 : (List (Int × Int × Unit)) → Option (Int)) (a49 : Int → Int → Int → Option (Bool)) (a50 : (List (Int × Int × Unit)) → (List Int) → Option (Int)) (N : Nat) (l0 : List (Int × Int × Unit)) (set1 : List Int) : ∀ (m : Nat) (last7_a : Int) (t18_a : Int), R16_0 a23 a49 a50 N m (Sl16a l0 set1 last7_a t18_a) = l16a a23 a49 a50 N l0 set1 m last7_a t18_a
        | 0, _, _ => rfl
        | m + 1, last7_a, t18_a => by rw [wl16a]; simp only [l16a, ql16a a23 a49 a50 N l0 set1 m]
def m16 (a23 : (List (Int × Int × Unit)) → Option (Int)) (a49 : Int → Int → Int → Option (Bool)) (a50 : (List (Int × Int × Unit)) → (List Int) → Option (Int)) (N : Nat) (l0 : List (Int × Int × Unit)) (set1 : List Int) : Option (Int × Int) :=
      (a23 l0).bind fun r1 =>
      cond (r1 != (0 : Int)) (some ((0 : Int), r1))
      ((l16a a23 a49 a50 N l0 set1 N (-1 : Int) (0 : Int)))
theorem wm16 (a23 : (List (Int × Int × Unit)) → Option (Int)) (a49 : Int → Int → Int → Option (Bool)) (a50 : (List (Int × Int × Unit)) → (List Int) → Option (Int)) (N : Nat) (l0 : List (Int × Int × Unit)) (set1 : List Int) : callF (E16 a23 a49 a50) lv16 N en16 c16 (resOf Try.f16) 39 [.dv (.sl (.pair (.int .i64) (.pair (.int .i64) (.unit)))) l0, .dv (.sl (.int .i64)) set1] [] dec16 = (a23 l0).bind fun r1 =>
      cond (r1 != (0 : Int)) (some ((0 : Int), r1))
      ((R16_0 a23 a49 a50 N N (Sl16a l0 set1 (-1 : Int) (0 : Int)))) := by kernel_rfl
theorem k16 (a23 : (List (Int × Int × Unit)) → Option (Int)) (a49 : Int → Int → Int → Option (Bool)) (a50 : (List (Int × Int × Unit)) → (List Int) → Option (Int)) (N : Nat) (l0 : List (Int × Int × Unit)) (set1 : List Int) : callF (E16 a23 a49 a50) lv16 N en16 c16 (resOf Try.f16) 39 [.dv (.sl (.pair (.int .i64) (.pair (.int .i64) (.unit)))) l0, .dv (.sl (.int .i64)) set1] [] dec16 = m16 a23 a49 a50 N l0 set1 := by rw [wm16]; simp only [m16, ql16a]
theorem ok16 (a23 : (List (Int × Int × Unit)) → Option (Int)) (a49 : Int → Int → Int → Option (Bool)) (a50 : (List (Int × Int × Unit)) → (List Int) → Option (Int)) (h23 : FnOk Try.prog 23 (F23 a23)) (h49 : FnOk Try.prog 49 (F49 a49)) (h50 : FnOk Try.prog 50 (F50 a50)) (a : (List (Int × Int × Unit)) → (List Int) → Option (Int × Int)) (h : ∀ l0 set1 r, a l0 set1 = some r → (∃ N, m16 a23 a49 a50 N l0 set1 = some r)) : FnOk Try.prog 16 (F16 a) := by
  intro args Of x hx
  simp only [F16] at hx
  split at hx
  · rename_i l0 set1
    obtain ⟨N, hN⟩ := h _ _ _ hx
    refine lifted (L := [(23, F23 a23), (49, F49 a49), (50, F50 a50)]) (rc := nrc) (fz := nfz) (fn := Try.f16) (by kernel_rfl) (by kernel_rfl) (by kernel_rfl) (by kernel_rfl) rfl ?_ ((k16 a23 a49 a50 N _ _).trans hN) ?_
    · intro p hp; simp only [List.mem_cons, List.not_mem_nil, or_false] at hp; rcases hp with rfl | rfl | rfl
      · exact h23
      · exact h49
      · exact h50
    · intro l o hd
      simp only [dec16] at hd
      split at hd
      · obtain rfl := Option.some.inj hd; exact ⟨rfl, rfl⟩
      · cases hd
  · cases hx
def E80 : Env := mkE TI TY [] nrc nfz
noncomputable def c80 : Code := bodyOf Try.f80
def lv80 : Nat → Option Norm := norms []
def en80 : End := ⟨[], ⟨[6], [], [], []⟩⟩
def dec80 (l : List TV) (o : List (Nat × TO)) : Option (Bool) := match l, o with | [.dv (.bool) x0], [] => some (x0) | _, _ => none
def m80 (N : Nat) (x0 : Int) : Option (Bool) :=
      some (x0 != x0)
theorem k80 (N : Nat) (x0 : Int) : callF (E80) lv80 N en80 c80 (resOf Try.f80) 5 [.dv (.int .i64) x0] [] dec80 = m80 N x0 := by kernel_rfl
theorem ok80 (a : Int → Option (Bool)) (h : ∀ x0 r, a x0 = some r → (∃ N, m80 N x0 = some r)) : FnOk Try.prog 80 (F80 a) := by
  intro args Of x hx
  simp only [F80] at hx
  split at hx
  · rename_i x0
    obtain ⟨N, hN⟩ := h _ _ hx
    refine lifted (L := []) (rc := nrc) (fz := nfz) (fn := Try.f80) (by kernel_rfl) (by kernel_rfl) (by kernel_rfl) (by kernel_rfl) rfl ?_ ((k80 N _).trans hN) ?_
    · intro p hp; cases hp
    · intro l o hd
      simp only [dec80] at hd
      split at hd
      · obtain rfl := Option.some.inj hd; exact ⟨rfl, rfl⟩
      · cases hd
  · cases hx
def E62 (a80 : Int → Option (Bool)) : Env := mkE TI TY [(80, F80 a80)] nrc nfz
noncomputable def c62 : Code := bodyOf Try.f62
def lv62 : Nat → Option Norm := norms []
def en62 : End := ⟨[], ⟨[20], [], [], []⟩⟩
def dec62 (l : List TV) (o : List (Nat × TO)) : Option (Int) := match l, o with | [.dv (.int .i64) x0], [] => some (x0) | _, _ => none
def m62 (a80 : Int → Option (Bool)) (N : Nat) (x0 : Int) (y1 : Int) : Option (Int) :=
      (a80 x0).bind fun r1 =>
      (a80 y1).bind fun r2 =>
      cond (r1) (cond (r2) (some (0 : Int))
      (some (-1 : Int)))
      (cond (r2) (some (1 : Int))
      (cond (decide (x0 < y1)) (some (-1 : Int))
      (cond (decide (x0 > y1)) (some (1 : Int))
      (some (0 : Int)))))
theorem k62 (a80 : Int → Option (Bool)) (N : Nat) (x0 : Int) (y1 : Int) : callF (E62 a80) lv62 N en62 c62 (resOf Try.f62) 18 [.dv (.int .i64) x0, .dv (.int .i64) y1] [] dec62 = m62 a80 N x0 y1 := by kernel_rfl
theorem ok62 (a80 : Int → Option (Bool)) (h80 : FnOk Try.prog 80 (F80 a80)) (a : Int → Int → Option (Int)) (h : ∀ x0 y1 r, a x0 y1 = some r → (∃ N, m62 a80 N x0 y1 = some r)) : FnOk Try.prog 62 (F62 a) := by
  intro args Of x hx
  simp only [F62] at hx
  split at hx
  · rename_i x0 y1
    obtain ⟨N, hN⟩ := h _ _ _ hx
    refine lifted (L := [(80, F80 a80)]) (rc := nrc) (fz := nfz) (fn := Try.f62) (by kernel_rfl) (by kernel_rfl) (by kernel_rfl) (by kernel_rfl) rfl ?_ ((k62 a80 N _ _).trans hN) ?_
    · intro p hp; simp only [List.mem_cons, List.not_mem_nil, or_false] at hp; rcases hp with rfl; exact h80
    · intro l o hd
      simp only [dec62] at hd
      split at hd
      · obtain rfl := Option.some.inj hd; exact ⟨rfl, rfl⟩
      · cases hd
  · cases hx
def E72 (a62 : Int → Int → Option (Int)) : Env := mkE TI TY [(62, F62 a62)] nrc nfz
noncomputable def c72 : Code := bodyOf Try.f72
def lv72 : Nat → Option Norm := norms []
def en72 : End := ⟨[], ⟨[10], [], [], []⟩⟩
def dec72 (l : List TV) (o : List (Nat × TO)) : Option (Int) := match l, o with | [.dv (.int .i64) x0], [] => some (x0) | _, _ => none
def m72 (a62 : Int → Int → Option (Int)) (N : Nat) (a0 : Int × Int × Unit) (b1 : Int × Int × Unit) : Option (Int) :=
      (a62 a0.2.1 b1.2.1).bind fun r1 =>
      some r1
theorem k72 (a62 : Int → Int → Option (Int)) (N : Nat) (a0 : Int × Int × Unit) (b1 : Int × Int × Unit) : callF (E72 a62) lv72 N en72 c72 (resOf Try.f72) 8 [.dv (.pair (.int .i64) (.pair (.int .i64) (.unit))) a0, .dv (.pair (.int .i64) (.pair (.int .i64) (.unit))) b1] [] dec72 = m72 a62 N a0 b1 := by kernel_rfl
theorem ok72 (a62 : Int → Int → Option (Int)) (h62 : FnOk Try.prog 62 (F62 a62)) (a : (Int × Int × Unit) → (Int × Int × Unit) → Option (Int)) (h : ∀ a0 b1 r, a a0 b1 = some r → (∃ N, m72 a62 N a0 b1 = some r)) : FnOk Try.prog 72 (F72 a) := by
  intro args Of x hx
  simp only [F72] at hx
  split at hx
  · rename_i a0 b1
    obtain ⟨N, hN⟩ := h _ _ _ hx
    refine lifted (L := [(62, F62 a62)]) (rc := nrc) (fz := nfz) (fn := Try.f72) (by kernel_rfl) (by kernel_rfl) (by kernel_rfl) (by kernel_rfl) rfl ?_ ((k72 a62 N _ _).trans hN) ?_
    · intro p hp; simp only [List.mem_cons, List.not_mem_nil, or_false] at hp; rcases hp with rfl; exact h62
    · intro l o hd
      simp only [dec72] at hd
      split at hd
      · obtain rfl := Option.some.inj hd; exact ⟨rfl, rfl⟩
      · cases hd
  · cases hx
def E73c (a72 : (Int × Int × Unit) → (Int × Int × Unit) → Option (Int)) (a85c : Int → (List (Int × Int × Unit)) → (List (Int × Int × Unit)) → Option (List (Int × Int × Unit))) : Env := mkE TI TY [(72, F72 a72), (85, F85c a85c)] nrc nfz
noncomputable def c73c : Code := bodyOf Try.f73
def nm73c_0 : Norm := ⟨[0, 3, 4], [9000, 3, 9001], [], []⟩
def lv73c : Nat → Option Norm := norms [(2, nm73c_0)]
def en73c : End := ⟨[], ⟨[], [9000, 9001], [(.fld 9000 0, 2000, .pair (.int .i64) (.pair (.int .i64) (.unit)))], []⟩⟩
def dec73c (l : List TV) (o : List (Nat × TO)) : Option (List (Int × Int × Unit)) := match l, o, capsOf l o with | [], [(2000, .row (.pair (.int .i64) (.pair (.int .i64) (.unit))) x0), (9000, .rcd [.row 2000, .fn 72 0 0 _]), (9001, .dead)], [[]] => some (x0) | _, _, _ => none
noncomputable def K73c_0 (a72 : (Int × Int × Unit) → (Int × Int × Unit) → Option (Int)) (a85c : Int → (List (Int × Int × Unit)) → (List (Int × Int × Unit)) → Option (List (Int × Int × Unit))) (N : Nat) : Kont (List (Int × Int × Unit)) := kont (E73c a72 a85c) lv73c N c73c [1, 1, 0, 0] (fin TI en73c (resOf Try.f73) dec73c)
noncomputable def R73c_0 (a72 : (Int × Int × Unit) → (Int × Int × Unit) → Option (Int)) (a85c : Int → (List (Int × Int × Unit)) → (List (Int × Int × Unit)) → Option (List (Int × Int × Unit))) (N : Nat) (m : Nat) : TS → Option (List (Int × Int × Unit)) := loopK (den (E73c a72 a85c) lv73c N (sub c73c [1, 1, 0, 0, 0])) (TS.norm nm73c_0) (K73c_0 a72 a85c N) m
def Sl73ca (x1 : Int × Int × Unit) (p1 : List (Int × Int × Unit)) (at4_a : Int) : TS := ⟨slots 42 [(0, .ptr 9000 0 []), (3, .ptr 3 0 []), (4, .dv (.int .i64) at4_a)], [(9000, .rcd [.row 9001, .fn 72 0 0 fun i => ([] : List TV).getD i .any]), (3, .row (.pair (.int .i64) (.pair (.int .i64) (.unit))) ([x1] : List (Int × Int × Unit))), (9001, .row (.pair (.int .i64) (.pair (.int .i64) (.unit))) p1)]⟩
def l73ca (a72 : (Int × Int × Unit) → (Int × Int × Unit) → Option (Int)) (a85c : Int → (List (Int × Int × Unit)) → (List (Int × Int × Unit)) → Option (List (Int × Int × Unit))) (N : Nat) (x1 : Int × Int × Unit) (p1 : List (Int × Int × Unit)) : Nat → Int → Option (List (Int × Int × Unit))
  | 0, _ => none
  | n + 1, at4_a => cond (decide (at4_a > (0 : Int))) (chk (decide (0 ≤ w64 (at4_a - (1 : Int)) ∧ w64 (at4_a - (1 : Int)) < (p1.length : Int))) ((a72 (p1.getD ((w64 (at4_a - (1 : Int))).toNat) ((0 : Int), ((0 : Int), ()))) x1).bind fun r1 =>
      cond (decide (r1 < (0 : Int))) ((l73ca a72 a85c N x1 p1 n (w64 (at4_a - (1 : Int)))))
      ((a85c at4_a ([x1] : List (Int × Int × Unit)) p1).bind fun r2 =>
      some r2)))
      ((a85c at4_a ([x1] : List (Int × Int × Unit)) p1).bind fun r3 =>
      some r3)
theorem wl73ca (a72 : (Int × Int × Unit) → (Int × Int × Unit) → Option (Int)) (a85c : Int → (List (Int × Int × Unit)) → (List (Int × Int × Unit)) → Option (List (Int × Int × Unit))) (N : Nat) (x1 : Int × Int × Unit) (p1 : List (Int × Int × Unit)) (m : Nat) (at4_a : Int) : R73c_0 a72 a85c N (m + 1) (Sl73ca x1 p1 at4_a) = cond (decide (at4_a > (0 : Int))) (chk (decide (0 ≤ w64 (at4_a - (1 : Int)) ∧ w64 (at4_a - (1 : Int)) < (p1.length : Int))) ((a72 (p1.getD ((w64 (at4_a - (1 : Int))).toNat) ((0 : Int), ((0 : Int), ()))) x1).bind fun r1 =>
      cond (decide (r1 < (0 : Int))) ((R73c_0 a72 a85c N m (Sl73ca x1 p1 (w64 (at4_a - (1 : Int))))))
      ((a85c at4_a ([x1] : List (Int × Int × Unit)) p1).bind fun r2 =>
      some r2)))
      ((a85c at4_a ([x1] : List (Int × Int × Unit)) p1).bind fun r3 =>
      some r3) := by kernel_rfl
theorem ql73ca (a72 : (Int × Int × Unit) → (Int × Int × Unit) → Option (Int)) (a85c : Int → (List (Int × Int × Unit)) → (List (Int × Int × Unit)) → Option (List (Int × Int × Unit))) (N : Nat) (x1 : Int × Int × Unit) (p1 : List (Int × Int × Unit)) : ∀ (m : Nat) (at4_a : Int), R73c_0 a72 a85c N m (Sl73ca x1 p1 at4_a) = l73ca a72 a85c N x1 p1 m at4_a
        | 0, _ => rfl
        | m + 1, at4_a => by rw [wl73ca]; simp only [l73ca, ql73ca a72 a85c N x1 p1 m]
def m73c (a72 : (Int × Int × Unit) → (Int × Int × Unit) → Option (Int)) (a85c : Int → (List (Int × Int × Unit)) → (List (Int × Int × Unit)) → Option (List (Int × Int × Unit))) (N : Nat) (x1 : Int × Int × Unit) (p1 : List (Int × Int × Unit)) : Option (List (Int × Int × Unit)) :=
      (l73ca a72 a85c N x1 p1 N (p1.length : Int))
theorem wm73c (a72 : (Int × Int × Unit) → (Int × Int × Unit) → Option (Int)) (a85c : Int → (List (Int × Int × Unit)) → (List (Int × Int × Unit)) → Option (List (Int × Int × Unit))) (N : Nat) (x1 : Int × Int × Unit) (p1 : List (Int × Int × Unit)) : callF (E73c a72 a85c) lv73c N en73c c73c (resOf Try.f73) 40 [.ptr 9000 0 [], .dv (.pair (.int .i64) (.pair (.int .i64) (.unit))) x1] [(9000, .rcd [.row 9001, .fn 72 0 0 fun i => ([] : List TV).getD i .any]), (9001, .row (.pair (.int .i64) (.pair (.int .i64) (.unit))) p1)] dec73c = (R73c_0 a72 a85c N N (Sl73ca x1 p1 (p1.length : Int))) := by kernel_rfl
theorem k73c (a72 : (Int × Int × Unit) → (Int × Int × Unit) → Option (Int)) (a85c : Int → (List (Int × Int × Unit)) → (List (Int × Int × Unit)) → Option (List (Int × Int × Unit))) (N : Nat) (x1 : Int × Int × Unit) (p1 : List (Int × Int × Unit)) : callF (E73c a72 a85c) lv73c N en73c c73c (resOf Try.f73) 40 [.ptr 9000 0 [], .dv (.pair (.int .i64) (.pair (.int .i64) (.unit))) x1] [(9000, .rcd [.row 9001, .fn 72 0 0 fun i => ([] : List TV).getD i .any]), (9001, .row (.pair (.int .i64) (.pair (.int .i64) (.unit))) p1)] dec73c = m73c a72 a85c N x1 p1 := by rw [wm73c]; simp only [m73c, ql73ca]
theorem ok73c (a72 : (Int × Int × Unit) → (Int × Int × Unit) → Option (Int)) (a85c : Int → (List (Int × Int × Unit)) → (List (Int × Int × Unit)) → Option (List (Int × Int × Unit))) (h72 : FnOk Try.prog 72 (F72 a72)) (h85c : FnOk Try.prog 85 (F85c a85c)) (a : (Int × Int × Unit) → (List (Int × Int × Unit)) → Option (List (Int × Int × Unit))) (h : ∀ x1 p1 r, a x1 p1 = some r → (∃ N, m73c a72 a85c N x1 p1 = some r)) : FnOk Try.prog 73 (F73c a) := by
  intro args Of x hx
  simp only [F73c] at hx
  split at hx
  · rename_i x1 f_0 p1 heqc
    have hc0 := congrArg (fun c : List (List TV) => c.getD 0 []) heqc
    obtain ⟨N, hN⟩ := h _ _ _ hx
    refine HSpec.etaL (args := [.ptr 9000 0 [], .dv (.pair (.int .i64) (.pair (.int .i64) (.unit))) x1]) (O := [(9000, .rcd [.row 9001, .fn 72 0 0 fun i => ([] : List TV).getD i .any]), (9001, .row (.pair (.int .i64) (.pair (.int .i64) (.unit))) p1)]) ⟨TV.sim_refl _, TV.sim_refl _, trivial⟩ ⟨rfl, TO.sim_rcd ⟨TV.sim_refl _, TV.sim_fn hc0, trivial⟩, rfl, TO.sim_refl _, trivial⟩ (liftedS (L := [(72, F72 a72), (85, F85c a85c)]) (rc := nrc) (fz := nfz) (fn := Try.f73) (by kernel_rfl) (by kernel_rfl) (by kernel_rfl) (by kernel_rfl) rfl ?_ ((k73c a72 a85c N _ _).trans hN) ?_)
    · intro p hp; simp only [List.mem_cons, List.not_mem_nil, or_false] at hp; rcases hp with rfl | rfl
      · exact h72
      · exact h85c
    · intro l o hd
      simp only [dec73c] at hd
      split at hd
      · rename_i heqd
        have hd0 := congrArg (fun c : List (List TV) => c.getD 0 []) heqd
        obtain rfl := Option.some.inj hd; exact ⟨TV.sim_refl _, ⟨rfl, TO.sim_refl _, rfl, TO.sim_rcd ⟨TV.sim_refl _, TV.sim_symm (TV.sim_fn hd0), trivial⟩, rfl, TO.sim_refl _, trivial⟩⟩
      · cases hd
  · cases hx
def E74c : Env := mkE TI TY [] nrc (fun i => ([22] : List Nat).contains i)
noncomputable def c74c : Code := bodyOf Try.f74
def lv74c : Nat → Option Norm := norms []
def en74c : End := ⟨[(26, .pair (.int .i64) (.pair (.int .i64) (.unit)))], ⟨[26, 27], [9000, 9001], [(.fld 9000 0, 2000, .pair (.int .i64) (.pair (.int .i64) (.unit)))], []⟩⟩
def dec74c (l : List TV) (o : List (Nat × TO)) : Option ((Int × Int × Unit) × Bool × List (Int × Int × Unit)) := match l, o, capsOf l o with | [.dv (.pair (.int .i64) (.pair (.int .i64) (.unit))) x0, .dv (.bool) x1], [(2000, .row (.pair (.int .i64) (.pair (.int .i64) (.unit))) x2), (9000, .rcd [.row 2000, .fn 72 0 0 _]), (9001, .dead)], [[]] => some (x0, x1, x2) | _, _, _ => none
def m74c (N : Nat) (p0 : List (Int × Int × Unit)) : Option ((Int × Int × Unit) × Bool × List (Int × Int × Unit)) :=
      cond ((p0.length : Int) == (0 : Int)) (some (((0 : Int), ((0 : Int), ())), false, p0))
      (chk (decide (0 ≤ (0 : Int) ∧ (0 : Int) < (p0.length : Int))) (chk (decide (0 ≤ (1 : Int) ∧ (1 : Int) ≤ (p0.length : Int))) (some (p0.getD 0 ((0 : Int), ((0 : Int), ())), true, p0.drop 1))))
theorem k74c (N : Nat) (p0 : List (Int × Int × Unit)) : callF (E74c) lv74c N en74c c74c (resOf Try.f74) 25 [.ptr 9000 0 []] [(9000, .rcd [.row 9001, .fn 72 0 0 fun i => ([] : List TV).getD i .any]), (9001, .row (.pair (.int .i64) (.pair (.int .i64) (.unit))) p0)] dec74c = m74c N p0 := by kernel_rfl
theorem ok74c (a : (List (Int × Int × Unit)) → Option ((Int × Int × Unit) × Bool × List (Int × Int × Unit))) (h : ∀ p0 r, a p0 = some r → (∃ N, m74c N p0 = some r)) : FnOk Try.prog 74 (F74c a) := by
  intro args Of x hx
  simp only [F74c] at hx
  split at hx
  · rename_i f_0 p0 heqc
    have hc0 := congrArg (fun c : List (List TV) => c.getD 0 []) heqc
    obtain ⟨N, hN⟩ := h _ _ hx
    refine HSpec.etaL (args := [.ptr 9000 0 []]) (O := [(9000, .rcd [.row 9001, .fn 72 0 0 fun i => ([] : List TV).getD i .any]), (9001, .row (.pair (.int .i64) (.pair (.int .i64) (.unit))) p0)]) ⟨TV.sim_refl _, trivial⟩ ⟨rfl, TO.sim_rcd ⟨TV.sim_refl _, TV.sim_fn hc0, trivial⟩, rfl, TO.sim_refl _, trivial⟩ (liftedS (L := []) (rc := nrc) (fz := (fun i => ([22] : List Nat).contains i)) (fn := Try.f74) (by kernel_rfl) (by kernel_rfl) (by kernel_rfl) (by kernel_rfl) rfl ?_ ((k74c N _).trans hN) ?_)
    · intro p hp; cases hp
    · intro l o hd
      simp only [dec74c] at hd
      split at hd
      · rename_i heqd
        have hd0 := congrArg (fun c : List (List TV) => c.getD 0 []) heqd
        obtain rfl := Option.some.inj hd; exact ⟨TV.sim_refl _, ⟨rfl, TO.sim_refl _, rfl, TO.sim_rcd ⟨TV.sim_refl _, TV.sim_symm (TV.sim_fn hd0), trivial⟩, rfl, TO.sim_refl _, trivial⟩⟩
      · cases hd
  · cases hx
def E53 (a73c : (Int × Int × Unit) → (List (Int × Int × Unit)) → Option (List (Int × Int × Unit))) (a74c : (List (Int × Int × Unit)) → Option ((Int × Int × Unit) × Bool × List (Int × Int × Unit))) : Env := mkE TI TY [(73, F73c a73c), (74, F74c a74c)] (fun i => ([(29, [none, none]), (28, [none, none])] : List (Nat × List (Option DT))).lookup i) nfz
noncomputable def c53 : Code := bodyOf Try.f53
def nm53_0 : Norm := ⟨[0, 3, 4, 13, 14, 15], [], [], []⟩
def nm53_1 : Norm := ⟨[0, 3, 4, 7, 30, 31], [29], [(.fld 29 0, 2100, .pair (.int .i64) (.pair (.int .i64) (.unit)))], []⟩
def nm53_2 : Norm := ⟨[0, 3, 4, 7, 8, 30, 31, 34, 35, 36], [29], [(.fld 29 0, 2100, .pair (.int .i64) (.pair (.int .i64) (.unit)))], []⟩
def lv53 : Nat → Option Norm := norms [(3, nm53_0), (9, nm53_1), (12, nm53_2)]
def en53 : End := ⟨[], ⟨[62], [], [], []⟩⟩
def dec53 (l : List TV) (o : List (Nat × TO)) : Option (Int) := match l, o with | [.dv (.int .i64) x0], [] => some (x0) | _, _ => none
noncomputable def K53_0 (a73c : (Int × Int × Unit) → (List (Int × Int × Unit)) → Option (List (Int × Int × Unit))) (a74c : (List (Int × Int × Unit)) → Option ((Int × Int × Unit) × Bool × List (Int × Int × Unit))) (N : Nat) : Kont (Int) := kont (E53 a73c a74c) lv53 N c53 [1, 1, 0, 1, 0] (fin TI en53 (resOf Try.f53) dec53)
noncomputable def R53_0 (a73c : (Int × Int × Unit) → (List (Int × Int × Unit)) → Option (List (Int × Int × Unit))) (a74c : (List (Int × Int × Unit)) → Option ((Int × Int × Unit) × Bool × List (Int × Int × Unit))) (N : Nat) (m : Nat) : TS → Option (Int) := loopK (den (E53 a73c a74c) lv53 N (sub c53 [1, 1, 0, 1, 0, 0])) (TS.norm nm53_0) (K53_0 a73c a74c N) m
noncomputable def K53_1 (a73c : (Int × Int × Unit) → (List (Int × Int × Unit)) → Option (List (Int × Int × Unit))) (a74c : (List (Int × Int × Unit)) → Option ((Int × Int × Unit) × Bool × List (Int × Int × Unit))) (N : Nat) : Kont (Int) := kont (E53 a73c a74c) lv53 N c53 [1, 1, 1, 1, 0, 1, 0] (fin TI en53 (resOf Try.f53) dec53)
noncomputable def R53_1 (a73c : (Int × Int × Unit) → (List (Int × Int × Unit)) → Option (List (Int × Int × Unit))) (a74c : (List (Int × Int × Unit)) → Option ((Int × Int × Unit) × Bool × List (Int × Int × Unit))) (N : Nat) (m : Nat) : TS → Option (Int) := loopK (den (E53 a73c a74c) lv53 N (sub c53 [1, 1, 1, 1, 0, 1, 0, 0])) (TS.norm nm53_1) (K53_1 a73c a74c N) m
noncomputable def K53_2 (a73c : (Int × Int × Unit) → (List (Int × Int × Unit)) → Option (List (Int × Int × Unit))) (a74c : (List (Int × Int × Unit)) → Option ((Int × Int × Unit) × Bool × List (Int × Int × Unit))) (N : Nat) (T53_1 : TS → Option (Int)) : Kont (Int) := kont (E53 a73c a74c) lv53 N (sub c53 [1, 1, 1, 1, 0, 1, 0, 0]) [1, 1, 0, 0, 1, 0, 1, 0] (kloop (TS.norm nm53_1) (K53_1 a73c a74c N) T53_1)
noncomputable def R53_2 (a73c : (Int × Int × Unit) → (List (Int × Int × Unit)) → Option (List (Int × Int × Unit))) (a74c : (List (Int × Int × Unit)) → Option ((Int × Int × Unit) × Bool × List (Int × Int × Unit))) (N : Nat) (T53_1 : TS → Option (Int)) (m : Nat) : TS → Option (Int) := loopK (den (E53 a73c a74c) lv53 N (sub c53 [1, 1, 1, 1, 0, 1, 0, 0, 1, 1, 0, 0, 1, 0, 1, 0, 0])) (TS.norm nm53_2) (K53_2 a73c a74c N T53_1) m
def Sl53c (l0 : List (Int × Int × Unit)) (last3_a : Int) (n4_b : Int) (t31_b : Int) (t36_c : Int) (o2100_c : List (Int × Int × Unit)) : TS := ⟨slots 62 [(0, .dv (.sl (.pair (.int .i64) (.pair (.int .i64) (.unit)))) l0), (3, .dv (.int .i64) last3_a), (4, .dv (.int .i64) n4_b), (7, .ptr 29 0 []), (8, .dv (.int .i64) t31_b), (30, .dv (.int .i64) last3_a), (31, .dv (.int .i64) t31_b), (34, .dv (.sl (.pair (.int .i64) (.pair (.int .i64) (.unit)))) l0), (35, .dv (.int .i64) (l0.length : Int)), (36, .dv (.int .i64) t36_c)], [(2100, .row (.pair (.int .i64) (.pair (.int .i64) (.unit))) o2100_c), (29, .rcd [.row 2100, .fn 72 0 0 fun i => ([] : List TV).getD i .any])]⟩
def Sl53b (l0 : List (Int × Int × Unit)) (last3_a : Int) (n4_b : Int) (t31_b : Int) (o2100_b : List (Int × Int × Unit)) : TS := ⟨slots 62 [(0, .dv (.sl (.pair (.int .i64) (.pair (.int .i64) (.unit)))) l0), (3, .dv (.int .i64) last3_a), (4, .dv (.int .i64) n4_b), (7, .ptr 29 0 []), (30, .dv (.int .i64) last3_a), (31, .dv (.int .i64) t31_b)], [(2100, .row (.pair (.int .i64) (.pair (.int .i64) (.unit))) o2100_b), (29, .rcd [.row 2100, .fn 72 0 0 fun i => ([] : List TV).getD i .any])]⟩
def Sl53a (l0 : List (Int × Int × Unit)) (last3_a : Int) (n4_a : Int) (t15_a : Int) : TS := ⟨slots 62 [(0, .dv (.sl (.pair (.int .i64) (.pair (.int .i64) (.unit)))) l0), (3, .dv (.int .i64) last3_a), (4, .dv (.int .i64) n4_a), (13, .dv (.sl (.pair (.int .i64) (.pair (.int .i64) (.unit)))) l0), (14, .dv (.int .i64) (l0.length : Int)), (15, .dv (.int .i64) t15_a)], []⟩
def l53c (a73c : (Int × Int × Unit) → (List (Int × Int × Unit)) → Option (List (Int × Int × Unit))) (a74c : (List (Int × Int × Unit)) → Option ((Int × Int × Unit) × Bool × List (Int × Int × Unit))) (N : Nat) (l0 : List (Int × Int × Unit)) (last3_a : Int) (n4_b : Int) (t31_b : Int) (rec_l53b : Int → Int → (List (Int × Int × Unit)) → Option (Int)) : Nat → Int → (List (Int × Int × Unit)) → Option (Int)
  | 0, _, _ => none
  | n + 1, t36_c, o2100_c => cond (decide (t36_c < (l0.length : Int))) (chk (decide (0 ≤ t36_c ∧ t36_c < (l0.length : Int))) (cond (((l0.getD t36_c.toNat ((0 : Int), ((0 : Int), ()))).1) == (w64 (last3_a - t31_b))) ((a73c (l0.getD t36_c.toNat ((0 : Int), ((0 : Int), ()))) o2100_c).bind fun r1 =>
      (l53c a73c a74c N l0 last3_a n4_b t31_b rec_l53b n (w64 (t36_c + (1 : Int))) r1))
      ((l53c a73c a74c N l0 last3_a n4_b t31_b rec_l53b n (w64 (t36_c + (1 : Int))) o2100_c))))
      ((a74c o2100_c).bind fun r2 =>
      cond (r2.2.1) ((rec_l53b (w64 (n4_b - r2.1.2.1)) (w64 (t31_b + (1 : Int))) r2.2.2))
      ((rec_l53b n4_b (w64 (t31_b + (1 : Int))) r2.2.2)))
theorem wl53c (a73c : (Int × Int × Unit) → (List (Int × Int × Unit)) → Option (List (Int × Int × Unit))) (a74c : (List (Int × Int × Unit)) → Option ((Int × Int × Unit) × Bool × List (Int × Int × Unit))) (N : Nat) (l0 : List (Int × Int × Unit)) (last3_a : Int) (n4_b : Int) (t31_b : Int) (T53_1 : TS → Option (Int)) (m : Nat) (t36_c : Int) (o2100_c : List (Int × Int × Unit)) : R53_2 a73c a74c N T53_1 (m + 1) (Sl53c l0 last3_a n4_b t31_b t36_c o2100_c) = cond (decide (t36_c < (l0.length : Int))) (chk (decide (0 ≤ t36_c ∧ t36_c < (l0.length : Int))) (cond (((l0.getD t36_c.toNat ((0 : Int), ((0 : Int), ()))).1) == (w64 (last3_a - t31_b))) ((a73c (l0.getD t36_c.toNat ((0 : Int), ((0 : Int), ()))) o2100_c).bind fun r1 =>
      (R53_2 a73c a74c N T53_1 m (Sl53c l0 last3_a n4_b t31_b (w64 (t36_c + (1 : Int))) r1)))
      ((R53_2 a73c a74c N T53_1 m (Sl53c l0 last3_a n4_b t31_b (w64 (t36_c + (1 : Int))) o2100_c)))))
      ((a74c o2100_c).bind fun r2 =>
      cond (r2.2.1) ((T53_1 (Sl53b l0 last3_a (w64 (n4_b - r2.1.2.1)) (w64 (t31_b + (1 : Int))) r2.2.2)))
      ((T53_1 (Sl53b l0 last3_a n4_b (w64 (t31_b + (1 : Int))) r2.2.2)))) := by kernel_rfl
theorem ql53c (a73c : (Int × Int × Unit) → (List (Int × Int × Unit)) → Option (List (Int × Int × Unit))) (a74c : (List (Int × Int × Unit)) → Option ((Int × Int × Unit) × Bool × List (Int × Int × Unit))) (N : Nat) (l0 : List (Int × Int × Unit)) (last3_a : Int) (n4_b : Int) (t31_b : Int) (T53_1 : TS → Option (Int)) : ∀ (m : Nat) (t36_c : Int) (o2100_c : List (Int × Int × Unit)), R53_2 a73c a74c N T53_1 m (Sl53c l0 last3_a n4_b t31_b t36_c o2100_c) = l53c a73c a74c N l0 last3_a n4_b t31_b (fun y0 y1 y2 => T53_1 (Sl53b l0 last3_a y0 y1 y2)) m t36_c o2100_c
        | 0, _, _ => rfl
        | m + 1, t36_c, o2100_c => by rw [wl53c]; simp only [l53c, ql53c a73c a74c N l0 last3_a n4_b t31_b T53_1 m]
def l53b (a73c : (Int × Int × Unit) → (List (Int × Int × Unit)) → Option (List (Int × Int × Unit))) (a74c : (List (Int × Int × Unit)) → Option ((Int × Int × Unit) × Bool × List (Int × Int × Unit))) (N : Nat) (l0 : List (Int × Int × Unit)) (last3_a : Int) : Nat → Int → Int → (List (Int × Int × Unit)) → Option (Int)
  | 0, _, _, _ => none
  | n + 1, n4_b, t31_b, o2100_b => cond (decide (t31_b < last3_a)) ((l53c a73c a74c N l0 last3_a n4_b t31_b (fun y0 y1 y2 => (l53b a73c a74c N l0 last3_a n y0 y1 y2)) N (0 : Int) o2100_b))
      (some n4_b)
theorem wl53b (a73c : (Int × Int × Unit) → (List (Int × Int × Unit)) → Option (List (Int × Int × Unit))) (a74c : (List (Int × Int × Unit)) → Option ((Int × Int × Unit) × Bool × List (Int × Int × Unit))) (N : Nat) (l0 : List (Int × Int × Unit)) (last3_a : Int) (m : Nat) (n4_b : Int) (t31_b : Int) (o2100_b : List (Int × Int × Unit)) : R53_1 a73c a74c N (m + 1) (Sl53b l0 last3_a n4_b t31_b o2100_b) = cond (decide (t31_b < last3_a)) ((R53_2 a73c a74c N (R53_1 a73c a74c N m) N (Sl53c l0 last3_a n4_b t31_b (0 : Int) o2100_b)))
      (some n4_b) := by kernel_rfl
theorem ql53b (a73c : (Int × Int × Unit) → (List (Int × Int × Unit)) → Option (List (Int × Int × Unit))) (a74c : (List (Int × Int × Unit)) → Option ((Int × Int × Unit) × Bool × List (Int × Int × Unit))) (N : Nat) (l0 : List (Int × Int × Unit)) (last3_a : Int) : ∀ (m : Nat) (n4_b : Int) (t31_b : Int) (o2100_b : List (Int × Int × Unit)), R53_1 a73c a74c N m (Sl53b l0 last3_a n4_b t31_b o2100_b) = l53b a73c a74c N l0 last3_a m n4_b t31_b o2100_b
        | 0, _, _, _ => rfl
        | m + 1, n4_b, t31_b, o2100_b => by rw [wl53b]; simp only [l53b, ql53c, ql53b a73c a74c N l0 last3_a m]
def l53a (a73c : (Int × Int × Unit) → (List (Int × Int × Unit)) → Option (List (Int × Int × Unit))) (a74c : (List (Int × Int × Unit)) → Option ((Int × Int × Unit) × Bool × List (Int × Int × Unit))) (N : Nat) (l0 : List (Int × Int × Unit)) : Nat → Int → Int → Int → Option (Int)
  | 0, _, _, _ => none
  | n + 1, last3_a, n4_a, t15_a => cond (decide (t15_a < (l0.length : Int))) (chk (decide (0 ≤ t15_a ∧ t15_a < (l0.length : Int))) ((l53a a73c a74c N l0 n (imax last3_a ((l0.getD t15_a.toNat ((0 : Int), ((0 : Int), ()))).1)) (w64 (n4_a + (((l0.getD t15_a.toNat ((0 : Int), ((0 : Int), ()))).2).1))) (w64 (t15_a + (1 : Int))))))
      ((l53b a73c a74c N l0 last3_a N n4_a (0 : Int) ([] : List (Int × Int × Unit))))
theorem wl53a (a73c : (Int × Int × Unit) → (List (Int × Int × Unit)) → Option (List (Int × Int × Unit))) (a74c : (List (Int × Int × Unit)) → Option ((Int × Int × Unit) × Bool × List (Int × Int × Unit))) (N : Nat) (l0 : List (Int × Int × Unit)) (m : Nat) (last3_a : Int) (n4_a : Int) (t15_a : Int) : R53_0 a73c a74c N (m + 1) (Sl53a l0 last3_a n4_a t15_a) = cond (decide (t15_a < (l0.length : Int))) (chk (decide (0 ≤ t15_a ∧ t15_a < (l0.length : Int))) ((R53_0 a73c a74c N m (Sl53a l0 (imax last3_a ((l0.getD t15_a.toNat ((0 : Int), ((0 : Int), ()))).1)) (w64 (n4_a + (((l0.getD t15_a.toNat ((0 : Int), ((0 : Int), ()))).2).1))) (w64 (t15_a + (1 : Int)))))))
      ((R53_1 a73c a74c N N (Sl53b l0 last3_a n4_a (0 : Int) ([] : List (Int × Int × Unit))))) := by kernel_rfl
theorem ql53a (a73c : (Int × Int × Unit) → (List (Int × Int × Unit)) → Option (List (Int × Int × Unit))) (a74c : (List (Int × Int × Unit)) → Option ((Int × Int × Unit) × Bool × List (Int × Int × Unit))) (N : Nat) (l0 : List (Int × Int × Unit)) : ∀ (m : Nat) (last3_a : Int) (n4_a : Int) (t15_a : Int), R53_0 a73c a74c N m (Sl53a l0 last3_a n4_a t15_a) = l53a a73c a74c N l0 m last3_a n4_a t15_a
        | 0, _, _, _ => rfl
        | m + 1, last3_a, n4_a, t15_a => by rw [wl53a]; simp only [l53a, ql53b, ql53a a73c a74c N l0 m]
def m53 (a73c : (Int × Int × Unit) → (List (Int × Int × Unit)) → Option (List (Int × Int × Unit))) (a74c : (List (Int × Int × Unit)) → Option ((Int × Int × Unit) × Bool × List (Int × Int × Unit))) (N : Nat) (l0 : List (Int × Int × Unit)) : Option (Int) :=
      (l53a a73c a74c N l0 N (0 : Int) (0 : Int) (0 : Int))
theorem wm53 (a73c : (Int × Int × Unit) → (List (Int × Int × Unit)) → Option (List (Int × Int × Unit))) (a74c : (List (Int × Int × Unit)) → Option ((Int × Int × Unit) × Bool × List (Int × Int × Unit))) (N : Nat) (l0 : List (Int × Int × Unit)) : callF (E53 a73c a74c) lv53 N en53 c53 (resOf Try.f53) 61 [.dv (.sl (.pair (.int .i64) (.pair (.int .i64) (.unit)))) l0] [] dec53 = (R53_0 a73c a74c N N (Sl53a l0 (0 : Int) (0 : Int) (0 : Int))) := by kernel_rfl
theorem k53 (a73c : (Int × Int × Unit) → (List (Int × Int × Unit)) → Option (List (Int × Int × Unit))) (a74c : (List (Int × Int × Unit)) → Option ((Int × Int × Unit) × Bool × List (Int × Int × Unit))) (N : Nat) (l0 : List (Int × Int × Unit)) : callF (E53 a73c a74c) lv53 N en53 c53 (resOf Try.f53) 61 [.dv (.sl (.pair (.int .i64) (.pair (.int .i64) (.unit)))) l0] [] dec53 = m53 a73c a74c N l0 := by rw [wm53]; simp only [m53, ql53a]
theorem ok53 (a73c : (Int × Int × Unit) → (List (Int × Int × Unit)) → Option (List (Int × Int × Unit))) (a74c : (List (Int × Int × Unit)) → Option ((Int × Int × Unit) × Bool × List (Int × Int × Unit))) (h73c : FnOk Try.prog 73 (F73c a73c)) (h74c : FnOk Try.prog 74 (F74c a74c)) (a : (List (Int × Int × Unit)) → Option (Int)) (h : ∀ l0 r, a l0 = some r → (∃ N, m53 a73c a74c N l0 = some r)) : FnOk Try.prog 53 (F53 a) := by
  intro args Of x hx
  simp only [F53] at hx
  split at hx
  · rename_i l0
    obtain ⟨N, hN⟩ := h _ _ hx
    refine lifted (L := [(73, F73c a73c), (74, F74c a74c)]) (rc := (fun i => ([(29, [none, none]), (28, [none, none])] : List (Nat × List (Option DT))).lookup i)) (fz := nfz) (fn := Try.f53) (by kernel_rfl) (by kernel_rfl) (by kernel_rfl) (by kernel_rfl) rfl ?_ ((k53 a73c a74c N _).trans hN) ?_
    · intro p hp; simp only [List.mem_cons, List.not_mem_nil, or_false] at hp; rcases hp with rfl | rfl
      · exact h73c
      · exact h74c
    · intro l o hd
      simp only [dec53] at hd
      split at hd
      · obtain rfl := Option.some.inj hd; exact ⟨rfl, rfl⟩
      · cases hd
  · cases hx
def E18 (a23 : (List (Int × Int × Unit)) → Option (Int)) (a53 : (List (Int × Int × Unit)) → Option (Int)) : Env := mkE TI TY [(23, F23 a23), (53, F53 a53)] nrc nfz
noncomputable def c18 : Code := bodyOf Try.f18
def lv18 : Nat → Option Norm := norms []
def en18 : End := ⟨[], ⟨[12, 13], [], [], []⟩⟩
def dec18 (l : List TV) (o : List (Nat × TO)) : Option (Int × Int) := match l, o with | [.dv (.int .i64) x0, .dv (.int .i64) x1], [] => some (x0, x1) | _, _ => none
def m18 (a23 : (List (Int × Int × Unit)) → Option (Int)) (a53 : (List (Int × Int × Unit)) → Option (Int)) (N : Nat) (l0 : List (Int × Int × Unit)) : Option (Int × Int) :=
      (a23 l0).bind fun r1 =>
      cond (r1 != (0 : Int)) (some ((0 : Int), r1))
      ((a53 l0).bind fun r2 =>
      some (r2, (0 : Int)))
theorem k18 (a23 : (List (Int × Int × Unit)) → Option (Int)) (a53 : (List (Int × Int × Unit)) → Option (Int)) (N : Nat) (l0 : List (Int × Int × Unit)) : callF (E18 a23 a53) lv18 N en18 c18 (resOf Try.f18) 11 [.dv (.sl (.pair (.int .i64) (.pair (.int .i64) (.unit)))) l0] [] dec18 = m18 a23 a53 N l0 := by kernel_rfl
theorem ok18 (a23 : (List (Int × Int × Unit)) → Option (Int)) (a53 : (List (Int × Int × Unit)) → Option (Int)) (h23 : FnOk Try.prog 23 (F23 a23)) (h53 : FnOk Try.prog 53 (F53 a53)) (a : (List (Int × Int × Unit)) → Option (Int × Int)) (h : ∀ l0 r, a l0 = some r → (∃ N, m18 a23 a53 N l0 = some r)) : FnOk Try.prog 18 (F18 a) := by
  intro args Of x hx
  simp only [F18] at hx
  split at hx
  · rename_i l0
    obtain ⟨N, hN⟩ := h _ _ hx
    refine lifted (L := [(23, F23 a23), (53, F53 a53)]) (rc := nrc) (fz := nfz) (fn := Try.f18) (by kernel_rfl) (by kernel_rfl) (by kernel_rfl) (by kernel_rfl) rfl ?_ ((k18 a23 a53 N _).trans hN) ?_
    · intro p hp; simp only [List.mem_cons, List.not_mem_nil, or_false] at hp; rcases hp with rfl | rfl
      · exact h23
      · exact h53
    · intro l o hd
      simp only [dec18] at hd
      split at hd
      · obtain rfl := Option.some.inj hd; exact ⟨rfl, rfl⟩
      · cases hd
  · cases hx
def E78c (a62 : Int → Int → Option (Int)) : Env := mkE TI TY [(62, F62 a62)] nrc nfz
noncomputable def c78c : Code := bodyOf Try.f78
def lv78c : Nat → Option Norm := norms []
def en78c : End := ⟨[], ⟨[17], [9000], [], []⟩⟩
def dec78c (l : List TV) (o : List (Nat × TO)) : Option (Int × List (Int × Int × Unit)) := match l, o with | [.dv (.int .i64) x0], [(9000, .rcd [.dv (.sl (.pair (.int .i64) (.pair (.int .i64) (.unit)))) x1])] => some (x0, x1) | _, _ => none
def m78c (a62 : Int → Int → Option (Int)) (N : Nat) (a0 : Int) (b1 : Int) (p2 : List (Int × Int × Unit)) : Option (Int × List (Int × Int × Unit)) :=
      chk (decide (0 ≤ b1 ∧ b1 < (p2.length : Int))) (chk (decide (0 ≤ a0 ∧ a0 < (p2.length : Int))) ((a62 (((p2.getD b1.toNat ((0 : Int), ((0 : Int), ()))).2).1) (((p2.getD a0.toNat ((0 : Int), ((0 : Int), ()))).2).1)).bind fun r1 =>
      some (r1, p2)))
theorem k78c (a62 : Int → Int → Option (Int)) (N : Nat) (a0 : Int) (b1 : Int) (p2 : List (Int × Int × Unit)) : callF (E78c a62) lv78c N en78c c78c (resOf Try.f78) 14 [.dv (.int .i64) a0, .dv (.int .i64) b1, .ptr 9000 0 [0]] [(9000, .rcd [.dv (.sl (.pair (.int .i64) (.pair (.int .i64) (.unit)))) p2])] dec78c = m78c a62 N a0 b1 p2 := by kernel_rfl
theorem ok78c (a62 : Int → Int → Option (Int)) (h62 : FnOk Try.prog 62 (F62 a62)) (a : Int → Int → (List (Int × Int × Unit)) → Option (Int × List (Int × Int × Unit))) (h : ∀ a0 b1 p2 r, a a0 b1 p2 = some r → (∃ N, m78c a62 N a0 b1 p2 = some r)) : FnOk Try.prog 78 (F78c a) := by
  intro args Of x hx
  simp only [F78c] at hx
  split at hx
  · rename_i a0 b1 p2
    obtain ⟨N, hN⟩ := h _ _ _ _ hx
    refine lifted (L := [(62, F62 a62)]) (rc := nrc) (fz := nfz) (fn := Try.f78) (by kernel_rfl) (by kernel_rfl) (by kernel_rfl) (by kernel_rfl) rfl ?_ ((k78c a62 N _ _ _).trans hN) ?_
    · intro p hp; simp only [List.mem_cons, List.not_mem_nil, or_false] at hp; rcases hp with rfl; exact h62
    · intro l o hd
      simp only [dec78c] at hd
      split at hd
      · obtain rfl := Option.some.inj hd; exact ⟨rfl, rfl⟩
      · cases hd
  · cases hx
def E86c78 (a78c : Int → Int → (List (Int × Int × Unit)) → Option (Int × List (Int × Int × Unit))) : Env := mkE TI TY [(78, F78c a78c)] nrc nfz
noncomputable def c86c78 : Code := bodyOf Try.f86
def nm86c78_0 : Norm := ⟨[0, 1, 2, 3, 8], [9000, 9001], [], []⟩
def nm86c78_1 : Norm := ⟨[0, 1, 2, 3, 8, 9], [9000, 9001], [], []⟩
def lv86c78 : Nat → Option Norm := norms [(1, nm86c78_0), (4, nm86c78_1)]
def en86c78 : End := ⟨[], ⟨[], [9000, 9001], [], []⟩⟩
def dec86c78 (l : List TV) (o : List (Nat × TO)) : Option (List Int × List (Int × Int × Unit)) := match l, o with | [], [(9000, .row (.int .i64) x0), (9001, .rcd [.dv (.sl (.pair (.int .i64) (.pair (.int .i64) (.unit)))) x1])] => some (x0, x1) | _, _ => none
noncomputable def K86c78_0 (a78c : Int → Int → (List (Int × Int × Unit)) → Option (Int × List (Int × Int × Unit))) (N : Nat) : Kont (List Int × List (Int × Int × Unit)) := kont (E86c78 a78c) lv86c78 N c86c78 [1, 0] (fin TI en86c78 (resOf Try.f86) dec86c78)
noncomputable def R86c78_0 (a78c : Int → Int → (List (Int × Int × Unit)) → Option (Int × List (Int × Int × Unit))) (N : Nat) (m : Nat) : TS → Option (List Int × List (Int × Int × Unit)) := loopK (den (E86c78 a78c) lv86c78 N (sub c86c78 [1, 0, 0])) (TS.norm nm86c78_0) (K86c78_0 a78c N) m
noncomputable def K86c78_1 (a78c : Int → Int → (List (Int × Int × Unit)) → Option (Int × List (Int × Int × Unit))) (N : Nat) (T86c78_0 : TS → Option (List Int × List (Int × Int × Unit))) : Kont (List Int × List (Int × Int × Unit)) := kont (E86c78 a78c) lv86c78 N (sub c86c78 [1, 0, 0]) [1, 0, 0, 1, 0] (kloop (TS.norm nm86c78_0) (K86c78_0 a78c N) T86c78_0)
noncomputable def R86c78_1 (a78c : Int → Int → (List (Int × Int × Unit)) → Option (Int × List (Int × Int × Unit))) (N : Nat) (T86c78_0 : TS → Option (List Int × List (Int × Int × Unit))) (m : Nat) : TS → Option (List Int × List (Int × Int × Unit)) := loopK (den (E86c78 a78c) lv86c78 N (sub c86c78 [1, 0, 0, 1, 0, 0, 1, 0, 0])) (TS.norm nm86c78_1) (K86c78_1 a78c N T86c78_0) m
def Sl86c78b (a1 : Int) (b2 : Int) (i8_a : Int) (j9_b : Int) (o9000_b : List Int) (o9001_bf0 : List (Int × Int × Unit)) : TS := ⟨slots 53 [(0, .row 9000), (1, .dv (.int .i64) a1), (2, .dv (.int .i64) b2), (3, .fn 78 0 1 fun i => ([.ptr 9001 0 [0]] : List TV).getD i .any), (8, .dv (.int .i64) i8_a), (9, .dv (.int .i64) j9_b)], [(9000, .row (.int .i64) o9000_b), (9001, .rcd [.dv (.sl (.pair (.int .i64) (.pair (.int .i64) (.unit)))) o9001_bf0])]⟩
def Sl86c78a (a1 : Int) (b2 : Int) (i8_a : Int) (o9000_a : List Int) (o9001_af0 : List (Int × Int × Unit)) : TS := ⟨slots 53 [(0, .row 9000), (1, .dv (.int .i64) a1), (2, .dv (.int .i64) b2), (3, .fn 78 0 1 fun i => ([.ptr 9001 0 [0]] : List TV).getD i .any), (8, .dv (.int .i64) i8_a)], [(9000, .row (.int .i64) o9000_a), (9001, .rcd [.dv (.sl (.pair (.int .i64) (.pair (.int .i64) (.unit)))) o9001_af0])]⟩
def l86c78b (a78c : Int → Int → (List (Int × Int × Unit)) → Option (Int × List (Int × Int × Unit))) (N : Nat) (a1 : Int) (b2 : Int) (i8_a : Int) (rec_l86c78a : Int → (List Int) → (List (Int × Int × Unit)) → Option (List Int × List (Int × Int × Unit))) : Nat → Int → (List Int) → (List (Int × Int × Unit)) → Option (List Int × List (Int × Int × Unit))
  | 0, _, _, _ => none
  | n + 1, j9_b, o9000_b, o9001_bf0 => cond (decide (j9_b > a1)) (chk (decide (0 ≤ j9_b ∧ j9_b < (o9000_b.length : Int))) (chk (decide (0 ≤ w64 (j9_b - (1 : Int)) ∧ w64 (j9_b - (1 : Int)) < (o9000_b.length : Int))) ((a78c (o9000_b.getD j9_b.toNat (0 : Int)) (o9000_b.getD ((w64 (j9_b - (1 : Int))).toNat) (0 : Int)) o9001_bf0).bind fun r1 =>
      cond (decide (r1.1 < (0 : Int))) (chk (decide (0 ≤ w64 (j9_b - (1 : Int)) ∧ w64 (j9_b - (1 : Int)) < (o9000_b.length : Int))) (chk (decide (0 ≤ j9_b ∧ j9_b < (o9000_b.length : Int))) (chk (decide (0 ≤ j9_b ∧ j9_b < (o9000_b.length : Int))) (chk (decide (0 ≤ w64 (j9_b - (1 : Int)) ∧ w64 (j9_b - (1 : Int)) < ((o9000_b.set j9_b.toNat (o9000_b.getD ((w64 (j9_b - (1 : Int))).toNat) (0 : Int))).length : Int))) ((l86c78b a78c N a1 b2 i8_a rec_l86c78a n (w64 (j9_b - (1 : Int))) ((o9000_b.set j9_b.toNat (o9000_b.getD ((w64 (j9_b - (1 : Int))).toNat) (0 : Int))).set ((w64 (j9_b - (1 : Int))).toNat) (o9000_b.getD j9_b.toNat (0 : Int))) r1.2))))))
      ((rec_l86c78a (w64 (i8_a + (1 : Int))) o9000_b r1.2)))))
      ((rec_l86c78a (w64 (i8_a + (1 : Int))) o9000_b o9001_bf0))
theorem wl86c78b (a78c : Int → Int → (List (Int × Int × Unit)) → Option (Int × List (Int × Int × Unit))) (N : Nat) (a1 : Int) (b2 : Int) (i8_a : Int) (T86c78_0 : TS → Option (List Int × List (Int × Int × Unit))) (m : Nat) (j9_b : Int) (o9000_b : List Int) (o9001_bf0 : List (Int × Int × Unit)) : R86c78_1 a78c N T86c78_0 (m + 1) (Sl86c78b a1 b2 i8_a j9_b o9000_b o9001_bf0) = cond (decide (j9_b > a1)) (chk (decide (0 ≤ j9_b ∧ j9_b < (o9000_b.length : Int))) (chk (decide (0 ≤ w64 (j9_b - (1 : Int)) ∧ w64 (j9_b - (1 : Int)) < (o9000_b.length : Int))) ((a78c (o9000_b.getD j9_b.toNat (0 : Int)) (o9000_b.getD ((w64 (j9_b - (1 : Int))).toNat) (0 : Int)) o9001_bf0).bind fun r1 =>
      cond (decide (r1.1 < (0 : Int))) (chk (decide (0 ≤ w64 (j9_b - (1 : Int)) ∧ w64 (j9_b - (1 : Int)) < (o9000_b.length : Int))) (chk (decide (0 ≤ j9_b ∧ j9_b < (o9000_b.length : Int))) (chk (decide (0 ≤ j9_b ∧ j9_b < (o9000_b.length : Int))) (chk (decide (0 ≤ w64 (j9_b - (1 : Int)) ∧ w64 (j9_b - (1 : Int)) < ((o9000_b.set j9_b.toNat (o9000_b.getD ((w64 (j9_b - (1 : Int))).toNat) (0 : Int))).length : Int))) ((R86c78_1 a78c N T86c78_0 m (Sl86c78b a1 b2 i8_a (w64 (j9_b - (1 : Int))) ((o9000_b.set j9_b.toNat (o9000_b.getD ((w64 (j9_b - (1 : Int))).toNat) (0 : Int))).set ((w64 (j9_b - (1 : Int))).toNat) (o9000_b.getD j9_b.toNat (0 : Int))) r1.2)))))))
      ((T86c78_0 (Sl86c78a a1 b2 (w64 (i8_a + (1 : Int))) o9000_b r1.2))))))
      ((T86c78_0 (Sl86c78a a1 b2 (w64 (i8_a + (1 : Int))) o9000_b o9001_bf0))) := by kernel_rfl
theorem ql86c78b (a78c : Int → Int → (List (Int × Int × Unit)) → Option (Int × List (Int × Int × Unit))) (N : Nat) (a1 : Int) (b2 : Int) (i8_a : Int) (T86c78_0 : TS → Option (List Int × List (Int × Int × Unit))) : ∀ (m : Nat) (j9_b : Int) (o9000_b : List Int) (o9001_bf0 : List (Int × Int × Unit)), R86c78_1 a78c N T86c78_0 m (Sl86c78b a1 b2 i8_a j9_b o9000_b o9001_bf0) = l86c78b a78c N a1 b2 i8_a (fun y0 y1 y2 => T86c78_0 (Sl86c78a a1 b2 y0 y1 y2)) m j9_b o9000_b o9001_bf0
        | 0, _, _, _ => rfl
        | m + 1, j9_b, o9000_b, o9001_bf0 => by rw [wl86c78b]; simp only [l86c78b, ql86c78b a78c N a1 b2 i8_a T86c78_0 m]
def l86c78a (a78c : Int → Int → (List (Int × Int × Unit)) → Option (Int × List (Int × Int × Unit))) (N : Nat) (a1 : Int) (b2 : Int) : Nat → Int → (List Int) → (List (Int × Int × Unit)) → Option (List Int × List (Int × Int × Unit))
  | 0, _, _, _ => none
  | n + 1, i8_a, o9000_a, o9001_af0 => cond (decide (i8_a < b2)) ((l86c78b a78c N a1 b2 i8_a (fun y0 y1 y2 => (l86c78a a78c N a1 b2 n y0 y1 y2)) N i8_a o9000_a o9001_af0))
      (some (o9000_a, o9001_af0))
theorem wl86c78a (a78c : Int → Int → (List (Int × Int × Unit)) → Option (Int × List (Int × Int × Unit))) (N : Nat) (a1 : Int) (b2 : Int) (m : Nat) (i8_a : Int) (o9000_a : List Int) (o9001_af0 : List (Int × Int × Unit)) : R86c78_0 a78c N (m + 1) (Sl86c78a a1 b2 i8_a o9000_a o9001_af0) = cond (decide (i8_a < b2)) ((R86c78_1 a78c N (R86c78_0 a78c N m) N (Sl86c78b a1 b2 i8_a i8_a o9000_a o9001_af0)))
      (some (o9000_a, o9001_af0)) := by kernel_rfl
theorem ql86c78a (a78c : Int → Int → (List (Int × Int × Unit)) → Option (Int × List (Int × Int × Unit))) (N : Nat) (a1 : Int) (b2 : Int) : ∀ (m : Nat) (i8_a : Int) (o9000_a : List Int) (o9001_af0 : List (Int × Int × Unit)), R86c78_0 a78c N m (Sl86c78a a1 b2 i8_a o9000_a o9001_af0) = l86c78a a78c N a1 b2 m i8_a o9000_a o9001_af0
        | 0, _, _, _ => rfl
        | m + 1, i8_a, o9000_a, o9001_af0 => by rw [wl86c78a]; simp only [l86c78a, ql86c78b, ql86c78a a78c N a1 b2 m]
def m86c78 (a78c : Int → Int → (List (Int × Int × Unit)) → Option (Int × List (Int × Int × Unit))) (N : Nat) (a1 : Int) (b2 : Int) (p2 : List Int) (p3 : List (Int × Int × Unit)) : Option (List Int × List (Int × Int × Unit)) :=
      (l86c78a a78c N a1 b2 N (w64 (a1 + (1 : Int))) p2 p3)
theorem wm86c78 (a78c : Int → Int → (List (Int × Int × Unit)) → Option (Int × List (Int × Int × Unit))) (N : Nat) (a1 : Int) (b2 : Int) (p2 : List Int) (p3 : List (Int × Int × Unit)) : callF (E86c78 a78c) lv86c78 N en86c78 c86c78 (resOf Try.f86) 49 [.row 9000, .dv (.int .i64) a1, .dv (.int .i64) b2, .fn 78 0 1 fun i => ([.ptr 9001 0 [0]] : List TV).getD i .any] [(9000, .row (.int .i64) p2), (9001, .rcd [.dv (.sl (.pair (.int .i64) (.pair (.int .i64) (.unit)))) p3])] dec86c78 = (R86c78_0 a78c N N (Sl86c78a a1 b2 (w64 (a1 + (1 : Int))) p2 p3)) := by kernel_rfl
theorem k86c78 (a78c : Int → Int → (List (Int × Int × Unit)) → Option (Int × List (Int × Int × Unit))) (N : Nat) (a1 : Int) (b2 : Int) (p2 : List Int) (p3 : List (Int × Int × Unit)) : callF (E86c78 a78c) lv86c78 N en86c78 c86c78 (resOf Try.f86) 49 [.row 9000, .dv (.int .i64) a1, .dv (.int .i64) b2, .fn 78 0 1 fun i => ([.ptr 9001 0 [0]] : List TV).getD i .any] [(9000, .row (.int .i64) p2), (9001, .rcd [.dv (.sl (.pair (.int .i64) (.pair (.int .i64) (.unit)))) p3])] dec86c78 = m86c78 a78c N a1 b2 p2 p3 := by rw [wm86c78]; simp only [m86c78, ql86c78a]
theorem ok86c78 (a78c : Int → Int → (List (Int × Int × Unit)) → Option (Int × List (Int × Int × Unit))) (h78c : FnOk Try.prog 78 (F78c a78c)) (a : Int → Int → (List Int) → (List (Int × Int × Unit)) → Option (List Int × List (Int × Int × Unit))) (h : ∀ a1 b2 p2 p3 r, a a1 b2 p2 p3 = some r → (∃ N, m86c78 a78c N a1 b2 p2 p3 = some r)) : FnOk Try.prog 86 (F86c78 a) := by
  intro args Of x hx
  simp only [F86c78] at hx
  split at hx
  · rename_i a1 b2 f_0 p2 p3 heqc
    have hc0 := congrArg (fun c : List (List TV) => c.getD 0 []) heqc
    obtain ⟨N, hN⟩ := h _ _ _ _ _ hx
    refine HSpec.etaL (args := [.row 9000, .dv (.int .i64) a1, .dv (.int .i64) b2, .fn 78 0 1 fun i => ([.ptr 9001 0 [0]] : List TV).getD i .any]) (O := [(9000, .row (.int .i64) p2), (9001, .rcd [.dv (.sl (.pair (.int .i64) (.pair (.int .i64) (.unit)))) p3])]) ⟨TV.sim_refl _, TV.sim_refl _, TV.sim_refl _, TV.sim_fn hc0, trivial⟩ ⟨rfl, TO.sim_refl _, rfl, TO.sim_refl _, trivial⟩ (lifted (L := [(78, F78c a78c)]) (rc := nrc) (fz := nfz) (fn := Try.f86) (by kernel_rfl) (by kernel_rfl) (by kernel_rfl) (by kernel_rfl) rfl ?_ ((k86c78 a78c N _ _ _ _).trans hN) ?_)
    · intro p hp; simp only [List.mem_cons, List.not_mem_nil, or_false] at hp; rcases hp with rfl; exact h78c
    · intro l o hd
      simp only [dec86c78] at hd
      split at hd
      · obtain rfl := Option.some.inj hd; exact ⟨rfl, rfl⟩
      · cases hd
  · cases hx
def E79c78 (a86c78 : Int → Int → (List Int) → (List (Int × Int × Unit)) → Option (List Int × List (Int × Int × Unit))) (a87c78 : Int → Int → Int → (List Int) → (List (Int × Int × Unit)) → Option (List Int × List (Int × Int × Unit))) : Env := mkE TI TY [(86, F86c78 a86c78), (87, F87c78 a87c78)] nrc nfz
noncomputable def c79c78 : Code := bodyOf Try.f79
def nm79c78_0 : Norm := ⟨[0, 1, 2, 6, 7, 8], [9000, 9001], [], []⟩
def nm79c78_1 : Norm := ⟨[0, 1, 2, 6], [9000, 9001], [], []⟩
def nm79c78_2 : Norm := ⟨[0, 1, 2, 6, 7, 8], [9000, 9001], [], []⟩
def lv79c78 : Nat → Option Norm := norms [(2, nm79c78_0), (7, nm79c78_1), (9, nm79c78_2)]
def en79c78 : End := ⟨[], ⟨[], [9000, 9001], [], []⟩⟩
def dec79c78 (l : List TV) (o : List (Nat × TO)) : Option (List Int × List (Int × Int × Unit)) := match l, o with | [], [(9000, .row (.int .i64) x0), (9001, .rcd [.dv (.sl (.pair (.int .i64) (.pair (.int .i64) (.unit)))) x1])] => some (x0, x1) | _, _ => none
noncomputable def K79c78_0 (a86c78 : Int → Int → (List Int) → (List (Int × Int × Unit)) → Option (List Int × List (Int × Int × Unit))) (a87c78 : Int → Int → Int → (List Int) → (List (Int × Int × Unit)) → Option (List Int × List (Int × Int × Unit))) (N : Nat) : Kont (List Int × List (Int × Int × Unit)) := kont (E79c78 a86c78 a87c78) lv79c78 N c79c78 [1, 1, 0, 0] (fin TI en79c78 (resOf Try.f79) dec79c78)
noncomputable def R79c78_0 (a86c78 : Int → Int → (List Int) → (List (Int × Int × Unit)) → Option (List Int × List (Int × Int × Unit))) (a87c78 : Int → Int → Int → (List Int) → (List (Int × Int × Unit)) → Option (List Int × List (Int × Int × Unit))) (N : Nat) (m : Nat) : TS → Option (List Int × List (Int × Int × Unit)) := loopK (den (E79c78 a86c78 a87c78) lv79c78 N (sub c79c78 [1, 1, 0, 0, 0])) (TS.norm nm79c78_0) (K79c78_0 a86c78 a87c78 N) m
noncomputable def K79c78_1 (a86c78 : Int → Int → (List Int) → (List (Int × Int × Unit)) → Option (List Int × List (Int × Int × Unit))) (a87c78 : Int → Int → Int → (List Int) → (List (Int × Int × Unit)) → Option (List Int × List (Int × Int × Unit))) (N : Nat) : Kont (List Int × List (Int × Int × Unit)) := kont (E79c78 a86c78 a87c78) lv79c78 N c79c78 [1, 1, 1, 1, 0] (fin TI en79c78 (resOf Try.f79) dec79c78)
noncomputable def R79c78_1 (a86c78 : Int → Int → (List Int) → (List (Int × Int × Unit)) → Option (List Int × List (Int × Int × Unit))) (a87c78 : Int → Int → Int → (List Int) → (List (Int × Int × Unit)) → Option (List Int × List (Int × Int × Unit))) (N : Nat) (m : Nat) : TS → Option (List Int × List (Int × Int × Unit)) := loopK (den (E79c78 a86c78 a87c78) lv79c78 N (sub c79c78 [1, 1, 1, 1, 0, 0])) (TS.norm nm79c78_1) (K79c78_1 a86c78 a87c78 N) m
noncomputable def K79c78_2 (a86c78 : Int → Int → (List Int) → (List (Int × Int × Unit)) → Option (List Int × List (Int × Int × Unit))) (a87c78 : Int → Int → Int → (List Int) → (List (Int × Int × Unit)) → Option (List Int × List (Int × Int × Unit))) (N : Nat) (T79c78_1 : TS → Option (List Int × List (Int × Int × Unit))) : Kont (List Int × List (Int × Int × Unit)) := kont (E79c78 a86c78 a87c78) lv79c78 N (sub c79c78 [1, 1, 1, 1, 0, 0]) [1, 0, 1, 0, 0] (kloop (TS.norm nm79c78_1) (K79c78_1 a86c78 a87c78 N) T79c78_1)
noncomputable def R79c78_2 (a86c78 : Int → Int → (List Int) → (List (Int × Int × Unit)) → Option (List Int × List (Int × Int × Unit))) (a87c78 : Int → Int → Int → (List Int) → (List (Int × Int × Unit)) → Option (List Int × List (Int × Int × Unit))) (N : Nat) (T79c78_1 : TS → Option (List Int × List (Int × Int × Unit))) (m : Nat) : TS → Option (List Int × List (Int × Int × Unit)) := loopK (den (E79c78 a86c78 a87c78) lv79c78 N (sub c79c78 [1, 1, 1, 1, 0, 0, 1, 0, 1, 0, 0, 0])) (TS.norm nm79c78_2) (K79c78_2 a86c78 a87c78 N T79c78_1) m
def Sl79c78c (n1 : Int) (blockSize6_b : Int) (a7_c : Int) (b8_c : Int) (o9000_c : List Int) (o9001_cf0 : List (Int × Int × Unit)) : TS := ⟨slots 63 [(0, .row 9000), (1, .dv (.int .i64) n1), (2, .fn 78 0 1 fun i => ([.ptr 9001 0 [0]] : List TV).getD i .any), (6, .dv (.int .i64) blockSize6_b), (7, .dv (.int .i64) a7_c), (8, .dv (.int .i64) b8_c)], [(9000, .row (.int .i64) o9000_c), (9001, .rcd [.dv (.sl (.pair (.int .i64) (.pair (.int .i64) (.unit)))) o9001_cf0])]⟩
def Sl79c78b (n1 : Int) (blockSize6_b : Int) (o9000_b : List Int) (o9001_bf0 : List (Int × Int × Unit)) : TS := ⟨slots 63 [(0, .row 9000), (1, .dv (.int .i64) n1), (2, .fn 78 0 1 fun i => ([.ptr 9001 0 [0]] : List TV).getD i .any), (6, .dv (.int .i64) blockSize6_b)], [(9000, .row (.int .i64) o9000_b), (9001, .rcd [.dv (.sl (.pair (.int .i64) (.pair (.int .i64) (.unit)))) o9001_bf0])]⟩
def Sl79c78a (n1 : Int) (a7_a : Int) (b8_a : Int) (o9000_a : List Int) (o9001_af0 : List (Int × Int × Unit)) : TS := ⟨slots 63 [(0, .row 9000), (1, .dv (.int .i64) n1), (2, .fn 78 0 1 fun i => ([.ptr 9001 0 [0]] : List TV).getD i .any), (6, .dv (.int .i64) (20 : Int)), (7, .dv (.int .i64) a7_a), (8, .dv (.int .i64) b8_a)], [(9000, .row (.int .i64) o9000_a), (9001, .rcd [.dv (.sl (.pair (.int .i64) (.pair (.int .i64) (.unit)))) o9001_af0])]⟩
def l79c78c (a86c78 : Int → Int → (List Int) → (List (Int × Int × Unit)) → Option (List Int × List (Int × Int × Unit))) (a87c78 : Int → Int → Int → (List Int) → (List (Int × Int × Unit)) → Option (List Int × List (Int × Int × Unit))) (N : Nat) (n1 : Int) (blockSize6_b : Int) (rec_l79c78b : Int → (List Int) → (List (Int × Int × Unit)) → Option (List Int × List (Int × Int × Unit))) : Nat → Int → Int → (List Int) → (List (Int × Int × Unit)) → Option (List Int × List (Int × Int × Unit))
  | 0, _, _, _, _ => none
  | n + 1, a7_c, b8_c, o9000_c, o9001_cf0 => cond (decide (b8_c ≤ n1)) ((a87c78 a7_c (w64 (a7_c + blockSize6_b)) b8_c o9000_c o9001_cf0).bind fun r3 =>
      (l79c78c a86c78 a87c78 N n1 blockSize6_b rec_l79c78b n b8_c (w64 (b8_c + (w64 ((2 : Int) * blockSize6_b)))) r3.1 r3.2))
      (cond (decide ((w64 (a7_c + blockSize6_b)) < n1)) ((a87c78 a7_c (w64 (a7_c + blockSize6_b)) n1 o9000_c o9001_cf0).bind fun r4 =>
      (rec_l79c78b (w64 (blockSize6_b * (2 : Int))) r4.1 r4.2))
      ((rec_l79c78b (w64 (blockSize6_b * (2 : Int))) o9000_c o9001_cf0)))
theorem wl79c78c (a86c78 : Int → Int → (List Int) → (List (Int × Int × Unit)) → Option (List Int × List (Int × Int × Unit))) (a87c78 : Int → Int → Int → (List Int) → (List (Int × Int × Unit)) → Option (List Int × List (Int × Int × Unit))) (N : Nat) (n1 : Int) (blockSize6_b : Int) (T79c78_1 : TS → Option (List Int × List (Int × Int × Unit))) (m : Nat) (a7_c : Int) (b8_c : Int) (o9000_c : List Int) (o9001_cf0 : List (Int × Int × Unit)) : R79c78_2 a86c78 a87c78 N T79c78_1 (m + 1) (Sl79c78c n1 blockSize6_b a7_c b8_c o9000_c o9001_cf0) = cond (decide (b8_c ≤ n1)) ((a87c78 a7_c (w64 (a7_c + blockSize6_b)) b8_c o9000_c o9001_cf0).bind fun r3 =>
      (R79c78_2 a86c78 a87c78 N T79c78_1 m (Sl79c78c n1 blockSize6_b b8_c (w64 (b8_c + (w64 ((2 : Int) * blockSize6_b)))) r3.1 r3.2)))
      (cond (decide ((w64 (a7_c + blockSize6_b)) < n1)) ((a87c78 a7_c (w64 (a7_c + blockSize6_b)) n1 o9000_c o9001_cf0).bind fun r4 =>
      (T79c78_1 (Sl79c78b n1 (w64 (blockSize6_b * (2 : Int))) r4.1 r4.2)))
      ((T79c78_1 (Sl79c78b n1 (w64 (blockSize6_b * (2 : Int))) o9000_c o9001_cf0)))) := by kernel_rfl
theorem ql79c78c (a86c78 : Int → Int → (List Int) → (List (Int × Int × Unit)) → Option (List Int × List (Int × Int × Unit))) (a87c78 : Int → Int → Int → (List Int) → (List (Int × Int × Unit)) → Option (List Int × List (Int × Int × Unit))) (N : Nat) (n1 : Int) (blockSize6_b : Int) (T79c78_1 : TS → Option (List Int × List (Int × Int × Unit))) : ∀ (m : Nat) (a7_c : Int) (b8_c : Int) (o9000_c : List Int) (o9001_cf0 : List (Int × Int × Unit)), R79c78_2 a86c78 a87c78 N T79c78_1 m (Sl79c78c n1 blockSize6_b a7_c b8_c o9000_c o9001_cf0) = l79c78c a86c78 a87c78 N n1 blockSize6_b (fun y0 y1 y2 => T79c78_1 (Sl79c78b n1 y0 y1 y2)) m a7_c b8_c o9000_c o9001_cf0
        | 0, _, _, _, _ => rfl
        | m + 1, a7_c, b8_c, o9000_c, o9001_cf0 => by rw [wl79c78c]; simp only [l79c78c, ql79c78c a86c78 a87c78 N n1 blockSize6_b T79c78_1 m]
def l79c78b (a86c78 : Int → Int → (List Int) → (List (Int × Int × Unit)) → Option (List Int × List (Int × Int × Unit))) (a87c78 : Int → Int → Int → (List Int) → (List (Int × Int × Unit)) → Option (List Int × List (Int × Int × Unit))) (N : Nat) (n1 : Int) : Nat → Int → (List Int) → (List (Int × Int × Unit)) → Option (List Int × List (Int × Int × Unit))
  | 0, _, _, _ => none
  | n + 1, blockSize6_b, o9000_b, o9001_bf0 => cond (decide (blockSize6_b < n1)) ((l79c78c a86c78 a87c78 N n1 blockSize6_b (fun y0 y1 y2 => (l79c78b a86c78 a87c78 N n1 n y0 y1 y2)) N (0 : Int) (w64 ((2 : Int) * blockSize6_b)) o9000_b o9001_bf0))
      (some (o9000_b, o9001_bf0))
theorem wl79c78b (a86c78 : Int → Int → (List Int) → (List (Int × Int × Unit)) → Option (List Int × List (Int × Int × Unit))) (a87c78 : Int → Int → Int → (List Int) → (List (Int × Int × Unit)) → Option (List Int × List (Int × Int × Unit))) (N : Nat) (n1 : Int) (m : Nat) (blockSize6_b : Int) (o9000_b : List Int) (o9001_bf0 : List (Int × Int × Unit)) : R79c78_1 a86c78 a87c78 N (m + 1) (Sl79c78b n1 blockSize6_b o9000_b o9001_bf0) = cond (decide (blockSize6_b < n1)) ((R79c78_2 a86c78 a87c78 N (R79c78_1 a86c78 a87c78 N m) N (Sl79c78c n1 blockSize6_b (0 : Int) (w64 ((2 : Int) * blockSize6_b)) o9000_b o9001_bf0)))
      (some (o9000_b, o9001_bf0)) := by kernel_rfl
theorem ql79c78b (a86c78 : Int → Int → (List Int) → (List (Int × Int × Unit)) → Option (List Int × List (Int × Int × Unit))) (a87c78 : Int → Int → Int → (List Int) → (List (Int × Int × Unit)) → Option (List Int × List (Int × Int × Unit))) (N : Nat) (n1 : Int) : ∀ (m : Nat) (blockSize6_b : Int) (o9000_b : List Int) (o9001_bf0 : List (Int × Int × Unit)), R79c78_1 a86c78 a87c78 N m (Sl79c78b n1 blockSize6_b o9000_b o9001_bf0) = l79c78b a86c78 a87c78 N n1 m blockSize6_b o9000_b o9001_bf0
        | 0, _, _, _ => rfl
        | m + 1, blockSize6_b, o9000_b, o9001_bf0 => by rw [wl79c78b]; simp only [l79c78b, ql79c78c, ql79c78b a86c78 a87c78 N n1 m]
def l79c78a (a86c78 : Int → Int → (List Int) → (List (Int × Int × Unit)) → Option (List Int × List (Int × Int × Unit))) (a87c78 : Int → Int → Int → (List Int) → (List (Int × Int × Unit)) → Option (List Int × List (Int × Int × Unit))) (N : Nat) (n1 : Int) : Nat → Int → Int → (List Int) → (List (Int × Int × Unit)) → Option (List Int × List (Int × Int × Unit))
  | 0, _, _, _, _ => none
  | n + 1, a7_a, b8_a, o9000_a, o9001_af0 => cond (decide (b8_a ≤ n1)) ((a86c78 a7_a b8_a o9000_a o9001_af0).bind fun r1 =>
      (l79c78a a86c78 a87c78 N n1 n b8_a (w64 (b8_a + (20 : Int))) r1.1 r1.2))
      ((a86c78 a7_a n1 o9000_a o9001_af0).bind fun r2 =>
      (l79c78b a86c78 a87c78 N n1 N (20 : Int) r2.1 r2.2))
theorem wl79c78a (a86c78 : Int → Int → (List Int) → (List (Int × Int × Unit)) → Option (List Int × List (Int × Int × Unit))) (a87c78 : Int → Int → Int → (List Int) → (List (Int × Int × Unit)) → Option (List Int × List (Int × Int × Unit))) (N : Nat) (n1 : Int) (m : Nat) (a7_a : Int) (b8_a : Int) (o9000_a : List Int) (o9001_af0 : List (Int × Int × Unit)) : R79c78_0 a86c78 a87c78 N (m + 1) (Sl79c78a n1 a7_a b8_a o9000_a o9001_af0) = cond (decide (b8_a ≤ n1)) ((a86c78 a7_a b8_a o9000_a o9001_af0).bind fun r1 =>
      (R79c78_0 a86c78 a87c78 N m (Sl79c78a n1 b8_a (w64 (b8_a + (20 : Int))) r1.1 r1.2)))
      ((a86c78 a7_a n1 o9000_a o9001_af0).bind fun r2 =>
      (R79c78_1 a86c78 a87c78 N N (Sl79c78b n1 (20 : Int) r2.1 r2.2))) := by kernel_rfl
theorem ql79c78a (a86c78 : Int → Int → (List Int) → (List (Int × Int × Unit)) → Option (List Int × List (Int × Int × Unit))) (a87c78 : Int → Int → Int → (List Int) → (List (Int × Int × Unit)) → Option (List Int × List (Int × Int × Unit))) (N : Nat) (n1 : Int) : ∀ (m : Nat) (a7_a : Int) (b8_a : Int) (o9000_a : List Int) (o9001_af0 : List (Int × Int × Unit)), R79c78_0 a86c78 a87c78 N m (Sl79c78a n1 a7_a b8_a o9000_a o9001_af0) = l79c78a a86c78 a87c78 N n1 m a7_a b8_a o9000_a o9001_af0
        | 0, _, _, _, _ => rfl
        | m + 1, a7_a, b8_a, o9000_a, o9001_af0 => by rw [wl79c78a]; simp only [l79c78a, ql79c78b, ql79c78a a86c78 a87c78 N n1 m]
def m79c78 (a86c78 : Int → Int → (List Int) → (List (Int × Int × Unit)) → Option (List Int × List (Int × Int × Unit))) (a87c78 : Int → Int → Int → (List Int) → (List (Int × Int × Unit)) → Option (List Int × List (Int × Int × Unit))) (N : Nat) (n1 : Int) (p1 : List Int) (p2 : List (Int × Int × Unit)) : Option (List Int × List (Int × Int × Unit)) :=
      (l79c78a a86c78 a87c78 N n1 N (0 : Int) (20 : Int) p1 p2)
theorem wm79c78 (a86c78 : Int → Int → (List Int) → (List (Int × Int × Unit)) → Option (List Int × List (Int × Int × Unit))) (a87c78 : Int → Int → Int → (List Int) → (List (Int × Int × Unit)) → Option (List Int × List (Int × Int × Unit))) (N : Nat) (n1 : Int) (p1 : List Int) (p2 : List (Int × Int × Unit)) : callF (E79c78 a86c78 a87c78) lv79c78 N en79c78 c79c78 (resOf Try.f79) 60 [.row 9000, .dv (.int .i64) n1, .fn 78 0 1 fun i => ([.ptr 9001 0 [0]] : List TV).getD i .any] [(9000, .row (.int .i64) p1), (9001, .rcd [.dv (.sl (.pair (.int .i64) (.pair (.int .i64) (.unit)))) p2])] dec79c78 = (R79c78_0 a86c78 a87c78 N N (Sl79c78a n1 (0 : Int) (20 : Int) p1 p2)) := by kernel_rfl
theorem k79c78 (a86c78 : Int → Int → (List Int) → (List (Int × Int × Unit)) → Option (List Int × List (Int × Int × Unit))) (a87c78 : Int → Int → Int → (List Int) → (List (Int × Int × Unit)) → Option (List Int × List (Int × Int × Unit))) (N : Nat) (n1 : Int) (p1 : List Int) (p2 : List (Int × Int × Unit)) : callF (E79c78 a86c78 a87c78) lv79c78 N en79c78 c79c78 (resOf Try.f79) 60 [.row 9000, .dv (.int .i64) n1, .fn 78 0 1 fun i => ([.ptr 9001 0 [0]] : List TV).getD i .any] [(9000, .row (.int .i64) p1), (9001, .rcd [.dv (.sl (.pair (.int .i64) (.pair (.int .i64) (.unit)))) p2])] dec79c78 = m79c78 a86c78 a87c78 N n1 p1 p2 := by rw [wm79c78]; simp only [m79c78, ql79c78a]
theorem ok79c78 (a86c78 : Int → Int → (List Int) → (List (Int × Int × Unit)) → Option (List Int × List (Int × Int × Unit))) (a87c78 : Int → Int → Int → (List Int) → (List (Int × Int × Unit)) → Option (List Int × List (Int × Int × Unit))) (h86c78 : FnOk Try.prog 86 (F86c78 a86c78)) (h87c78 : FnOk Try.prog 87 (F87c78 a87c78)) (a : Int → (List Int) → (List (Int × Int × Unit)) → Option (List Int × List (Int × Int × Unit))) (h : ∀ n1 p1 p2 r, a n1 p1 p2 = some r → (∃ N, m79c78 a86c78 a87c78 N n1 p1 p2 = some r)) : FnOk Try.prog 79 (F79c78 a) := by
  intro args Of x hx
  simp only [F79c78] at hx
  split at hx
  · rename_i n1 f_0 p1 p2 heqc
    have hc0 := congrArg (fun c : List (List TV) => c.getD 0 []) heqc
    obtain ⟨N, hN⟩ := h _ _ _ _ hx
    refine HSpec.etaL (args := [.row 9000, .dv (.int .i64) n1, .fn 78 0 1 fun i => ([.ptr 9001 0 [0]] : List TV).getD i .any]) (O := [(9000, .row (.int .i64) p1), (9001, .rcd [.dv (.sl (.pair (.int .i64) (.pair (.int .i64) (.unit)))) p2])]) ⟨TV.sim_refl _, TV.sim_refl _, TV.sim_fn hc0, trivial⟩ ⟨rfl, TO.sim_refl _, rfl, TO.sim_refl _, trivial⟩ (lifted (L := [(86, F86c78 a86c78), (87, F87c78 a87c78)]) (rc := nrc) (fz := nfz) (fn := Try.f79) (by kernel_rfl) (by kernel_rfl) (by kernel_rfl) (by kernel_rfl) rfl ?_ ((k79c78 a86c78 a87c78 N _ _ _).trans hN) ?_)
    · intro p hp; simp only [List.mem_cons, List.not_mem_nil, or_false] at hp; rcases hp with rfl | rfl
      · exact h86c78
      · exact h87c78
    · intro l o hd
      simp only [dec79c78] at hd
      split at hd
      · obtain rfl := Option.some.inj hd; exact ⟨rfl, rfl⟩
      · cases hd
  · cases hx
def E60c78 (a79c78 : Int → (List Int) → (List (Int × Int × Unit)) → Option (List Int × List (Int × Int × Unit))) : Env := mkE TI TY [(79, F79c78 a79c78)] nrc nfz
noncomputable def c60c78 : Code := bodyOf Try.f60
def lv60c78 : Nat → Option Norm := norms []
def en60c78 : End := ⟨[], ⟨[], [9000, 9001], [], []⟩⟩
def dec60c78 (l : List TV) (o : List (Nat × TO)) : Option (List Int × List (Int × Int × Unit)) := match l, o with | [], [(9000, .row (.int .i64) x0), (9001, .rcd [.dv (.sl (.pair (.int .i64) (.pair (.int .i64) (.unit)))) x1])] => some (x0, x1) | _, _ => none
def m60c78 (a79c78 : Int → (List Int) → (List (Int × Int × Unit)) → Option (List Int × List (Int × Int × Unit))) (N : Nat) (p0 : List Int) (p1 : List (Int × Int × Unit)) : Option (List Int × List (Int × Int × Unit)) :=
      (a79c78 (p0.length : Int) p0 p1).bind fun r1 =>
      some (r1.1, r1.2)
theorem k60c78 (a79c78 : Int → (List Int) → (List (Int × Int × Unit)) → Option (List Int × List (Int × Int × Unit))) (N : Nat) (p0 : List Int) (p1 : List (Int × Int × Unit)) : callF (E60c78 a79c78) lv60c78 N en60c78 c60c78 (resOf Try.f60) 7 [.row 9000, .fn 78 0 1 fun i => ([.ptr 9001 0 [0]] : List TV).getD i .any] [(9000, .row (.int .i64) p0), (9001, .rcd [.dv (.sl (.pair (.int .i64) (.pair (.int .i64) (.unit)))) p1])] dec60c78 = m60c78 a79c78 N p0 p1 := by kernel_rfl
theorem ok60c78 (a79c78 : Int → (List Int) → (List (Int × Int × Unit)) → Option (List Int × List (Int × Int × Unit))) (h79c78 : FnOk Try.prog 79 (F79c78 a79c78)) (a : (List Int) → (List (Int × Int × Unit)) → Option (List Int × List (Int × Int × Unit))) (h : ∀ p0 p1 r, a p0 p1 = some r → (∃ N, m60c78 a79c78 N p0 p1 = some r)) : FnOk Try.prog 60 (F60c78 a) := by
  intro args Of x hx
  simp only [F60c78] at hx
  split at hx
  · rename_i f_0 p0 p1 heqc
    have hc0 := congrArg (fun c : List (List TV) => c.getD 0 []) heqc
    obtain ⟨N, hN⟩ := h _ _ _ hx
    refine HSpec.etaL (args := [.row 9000, .fn 78 0 1 fun i => ([.ptr 9001 0 [0]] : List TV).getD i .any]) (O := [(9000, .row (.int .i64) p0), (9001, .rcd [.dv (.sl (.pair (.int .i64) (.pair (.int .i64) (.unit)))) p1])]) ⟨TV.sim_refl _, TV.sim_fn hc0, trivial⟩ ⟨rfl, TO.sim_refl _, rfl, TO.sim_refl _, trivial⟩ (lifted (L := [(79, F79c78 a79c78)]) (rc := nrc) (fz := nfz) (fn := Try.f60) (by kernel_rfl) (by kernel_rfl) (by kernel_rfl) (by kernel_rfl) rfl ?_ ((k60c78 a79c78 N _ _).trans hN) ?_)
    · intro p hp; simp only [List.mem_cons, List.not_mem_nil, or_false] at hp; rcases hp with rfl; exact h79c78
    · intro l o hd
      simp only [dec60c78] at hd
      split at hd
      · obtain rfl := Option.some.inj hd; exact ⟨rfl, rfl⟩
      · cases hd
  · cases hx
def E81 : Env := mkE TI TY [] nrc nfz
noncomputable def c81 : Code := bodyOf Try.f81
def nm81_0 : Norm := ⟨[0, 1, 7, 8], [], [], []⟩
def lv81 : Nat → Option Norm := norms [(2, nm81_0)]
def en81 : End := ⟨[], ⟨[19], [], [], []⟩⟩
def dec81 (l : List TV) (o : List (Nat × TO)) : Option (Int) := match l, o with | [.dv (.int .i64) x0], [] => some (x0) | _, _ => none
noncomputable def K81_0 (N : Nat) : Kont (Int) := kont (E81) lv81 N c81 [1, 0, 1, 0] (fin TI en81 (resOf Try.f81) dec81)
noncomputable def R81_0 (N : Nat) (m : Nat) : TS → Option (Int) := loopK (den (E81) lv81 N (sub c81 [1, 0, 1, 0, 0])) (TS.norm nm81_0) (K81_0 N) m
def Sl81a (s0 : List Int) (v1 : Int) (t8_a : Int) : TS := ⟨slots 19 [(0, .dv (.sl (.int .i64)) s0), (1, .dv (.int .i64) v1), (7, .dv (.int .i64) (s0.length : Int)), (8, .dv (.int .i64) t8_a)], []⟩
def l81a (N : Nat) (s0 : List Int) (v1 : Int) : Nat → Int → Option (Int)
  | 0, _ => none
  | n + 1, t8_a => cond (decide (t8_a < (s0.length : Int))) (chk (decide (0 ≤ t8_a ∧ t8_a < (s0.length : Int))) (cond (v1 == (s0.getD t8_a.toNat (0 : Int))) (some t8_a)
      ((l81a N s0 v1 n (w64 (t8_a + (1 : Int)))))))
      (some (-1 : Int))
theorem wl81a (N : Nat) (s0 : List Int) (v1 : Int) (m : Nat) (t8_a : Int) : R81_0 N (m + 1) (Sl81a s0 v1 t8_a) = cond (decide (t8_a < (s0.length : Int))) (chk (decide (0 ≤ t8_a ∧ t8_a < (s0.length : Int))) (cond (v1 == (s0.getD t8_a.toNat (0 : Int))) (some t8_a)
      ((R81_0 N m (Sl81a s0 v1 (w64 (t8_a + (1 : Int))))))))
      (some (-1 : Int)) := by kernel_rfl
theorem ql81a (N : Nat) (s0 : List Int) (v1 : Int) : ∀ (m : Nat) (t8_a : Int), R81_0 N m (Sl81a s0 v1 t8_a) = l81a N s0 v1 m t8_a
        | 0, _ => rfl
        | m + 1, t8_a => by rw [wl81a]; simp only [l81a, ql81a N s0 v1 m]
def m81 (N : Nat) (s0 : List Int) (v1 : Int) : Option (Int) :=
      (l81a N s0 v1 N (0 : Int))
theorem wm81 (N : Nat) (s0 : List Int) (v1 : Int) : callF (E81) lv81 N en81 c81 (resOf Try.f81) 17 [.dv (.sl (.int .i64)) s0, .dv (.int .i64) v1] [] dec81 = (R81_0 N N (Sl81a s0 v1 (0 : Int))) := by kernel_rfl
theorem k81 (N : Nat) (s0 : List Int) (v1 : Int) : callF (E81) lv81 N en81 c81 (resOf Try.f81) 17 [.dv (.sl (.int .i64)) s0, .dv (.int .i64) v1] [] dec81 = m81 N s0 v1 := by rw [wm81]; simp only [m81, ql81a]
theorem ok81 (a : (List Int) → Int → Option (Int)) (h : ∀ s0 v1 r, a s0 v1 = some r → (∃ N, m81 N s0 v1 = some r)) : FnOk Try.prog 81 (F81 a) := by
  intro args Of x hx
  simp only [F81] at hx
  split at hx
  · rename_i s0 v1
    obtain ⟨N, hN⟩ := h _ _ _ hx
    refine lifted (L := []) (rc := nrc) (fz := nfz) (fn := Try.f81) (by kernel_rfl) (by kernel_rfl) (by kernel_rfl) (by kernel_rfl) rfl ?_ ((k81 N _ _).trans hN) ?_
    · intro p hp; cases hp
    · intro l o hd
      simp only [dec81] at hd
      split at hd
      · obtain rfl := Option.some.inj hd; exact ⟨rfl, rfl⟩
      · cases hd
  · cases hx
def E63 (a81 : (List Int) → Int → Option (Int)) : Env := mkE TI TY [(81, F81 a81)] nrc nfz
noncomputable def c63 : Code := bodyOf Try.f63
def lv63 : Nat → Option Norm := norms []
def en63 : End := ⟨[], ⟨[9], [], [], []⟩⟩
def dec63 (l : List TV) (o : List (Nat × TO)) : Option (Bool) := match l, o with | [.dv (.bool) x0], [] => some (x0) | _, _ => none
def m63 (a81 : (List Int) → Int → Option (Int)) (N : Nat) (s0 : List Int) (v1 : Int) : Option (Bool) :=
      (a81 s0 v1).bind fun r1 =>
      some (decide (r1 ≥ (0 : Int)))
theorem k63 (a81 : (List Int) → Int → Option (Int)) (N : Nat) (s0 : List Int) (v1 : Int) : callF (E63 a81) lv63 N en63 c63 (resOf Try.f63) 7 [.dv (.sl (.int .i64)) s0, .dv (.int .i64) v1] [] dec63 = m63 a81 N s0 v1 := by kernel_rfl
theorem ok63 (a81 : (List Int) → Int → Option (Int)) (h81 : FnOk Try.prog 81 (F81 a81)) (a : (List Int) → Int → Option (Bool)) (h : ∀ s0 v1 r, a s0 v1 = some r → (∃ N, m63 a81 N s0 v1 = some r)) : FnOk Try.prog 63 (F63 a) := by
  intro args Of x hx
  simp only [F63] at hx
  split at hx
  · rename_i s0 v1
    obtain ⟨N, hN⟩ := h _ _ _ hx
    refine lifted (L := [(81, F81 a81)]) (rc := nrc) (fz := nfz) (fn := Try.f63) (by kernel_rfl) (by kernel_rfl) (by kernel_rfl) (by kernel_rfl) rfl ?_ ((k63 a81 N _ _).trans hN) ?_
    · intro p hp; simp only [List.mem_cons, List.not_mem_nil, or_false] at hp; rcases hp with rfl; exact h81
    · intro l o hd
      simp only [dec63] at hd
      split at hd
      · obtain rfl := Option.some.inj hd; exact ⟨rfl, rfl⟩
      · cases hd
  · cases hx
def E77 : Env := mkE TI TY [] nrc nfz
noncomputable def c77 : Code := bodyOf Try.f77
def lv77 : Nat → Option Norm := norms []
def en77 : End := ⟨[(9, .csl (.int .i64))], ⟨[9], [], [], []⟩⟩
def dec77 (l : List TV) (o : List (Nat × TO)) : Option (List Int) := match l, o with | [.dv (.csl (.int .i64)) x0], [] => some (x0) | _, _ => none
def m77 (N : Nat) (s0 : List Int) : Option (List Int) :=
      chk (decide (0 ≤ (s0.length : Int) ∧ (s0.length : Int) ≤ (s0.length : Int)) && decide ((s0.length : Int) = (s0.length : Int))) (some (s0.take ((s0.length : Int).toNat)))
theorem k77 (N : Nat) (s0 : List Int) : callF (E77) lv77 N en77 c77 (resOf Try.f77) 8 [.dv (.sl (.int .i64)) s0] [] dec77 = m77 N s0 := by kernel_rfl
theorem ok77 (a : (List Int) → Option (List Int)) (h : ∀ s0 r, a s0 = some r → (∃ N, m77 N s0 = some r)) : FnOk Try.prog 77 (F77 a) := by
  intro args Of x hx
  simp only [F77] at hx
  split at hx
  · rename_i s0
    obtain ⟨N, hN⟩ := h _ _ hx
    refine lifted (L := []) (rc := nrc) (fz := nfz) (fn := Try.f77) (by kernel_rfl) (by kernel_rfl) (by kernel_rfl) (by kernel_rfl) rfl ?_ ((k77 N _).trans hN) ?_
    · intro p hp; cases hp
    · intro l o hd
      simp only [dec77] at hd
      split at hd
      · obtain rfl := Option.some.inj hd; exact ⟨rfl, rfl⟩
      · cases hd
  · cases hx
def E76c (a50 : (List (Int × Int × Unit)) → (List Int) → Option (Int)) (a77 : (List Int) → Option (List Int)) : Env := mkE TI TY [(50, F50 a50), (77, F77 a77)] nrc nfz
noncomputable def c76c : Code := bodyOf Try.f76
def lv76c : Nat → Option Norm := norms []
def en76c : End := ⟨[], ⟨[13], [], [], []⟩⟩
def dec76c (l : List TV) (o : List (Nat × TO)) : Option (Bool) := match l, o with | [.dv (.bool) x0], [] => some (x0) | _, _ => none
def m76c (a50 : (List (Int × Int × Unit)) → (List Int) → Option (Int)) (a77 : (List Int) → Option (List Int)) (N : Nat) (i0 : Int) (p1 : List (Int × Int × Unit)) (p2 : List Int) : Option (Bool) :=
      (a77 p2).bind fun r1 =>
      chk (small (r1.length + 1) 8) ((a50 p1 (r1 ++ ([i0] : List Int))).bind fun r2 =>
      some (r2 == (0 : Int)))
theorem k76c (a50 : (List (Int × Int × Unit)) → (List Int) → Option (Int)) (a77 : (List Int) → Option (List Int)) (N : Nat) (i0 : Int) (p1 : List (Int × Int × Unit)) (p2 : List Int) : callF (E76c a50 a77) lv76c N en76c c76c (resOf Try.f76) 10 [.dv (.int .i64) i0, .el (.sl (.pair (.int .i64) (.pair (.int .i64) (.unit)))) p1 [], .el (.sl (.int .i64)) p2 []] [] dec76c = m76c a50 a77 N i0 p1 p2 := by kernel_rfl
theorem ok76c (a50 : (List (Int × Int × Unit)) → (List Int) → Option (Int)) (a77 : (List Int) → Option (List Int)) (h50 : FnOk Try.prog 50 (F50 a50)) (h77 : FnOk Try.prog 77 (F77 a77)) (a : Int → (List (Int × Int × Unit)) → (List Int) → Option (Bool)) (h : ∀ i0 p1 p2 r, a i0 p1 p2 = some r → (∃ N, m76c a50 a77 N i0 p1 p2 = some r)) : FnOk Try.prog 76 (F76c a) := by
  intro args Of x hx
  simp only [F76c] at hx
  split at hx
  · rename_i i0 p1 p2
    obtain ⟨N, hN⟩ := h _ _ _ _ hx
    refine lifted (L := [(50, F50 a50), (77, F77 a77)]) (rc := nrc) (fz := nfz) (fn := Try.f76) (by kernel_rfl) (by kernel_rfl) (by kernel_rfl) (by kernel_rfl) rfl ?_ ((k76c a50 a77 N _ _ _).trans hN) ?_
    · intro p hp; simp only [List.mem_cons, List.not_mem_nil, or_false] at hp; rcases hp with rfl | rfl
      · exact h50
      · exact h77
    · intro l o hd
      simp only [dec76c] at hd
      split at hd
      · obtain rfl := Option.some.inj hd; exact ⟨rfl, rfl⟩
      · cases hd
  · cases hx
def E55c (a60c78 : (List Int) → (List (Int × Int × Unit)) → Option (List Int × List (Int × Int × Unit))) (a63 : (List Int) → Int → Option (Bool)) (a70c : (List Int) → Option (List Int)) (a76cv2 : Int → (List (Int × Int × Unit)) → (List Int) → Option (Bool × List (Int × Int × Unit) × List Int)) : Env := mkE TI TY [(60, F60c78 a60c78), (63, F63 a63), (70, F70c a70c), (76, F76cv2 a76cv2)] nrc nfz
noncomputable def c55c : Code := bodyOf Try.f55
def nm55c_0 : Norm := ⟨[2, 3, 5, 6, 15, 16], [2, 3, 13], [], []⟩
def nm55c_1 : Norm := ⟨[3, 5, 27, 28, 29], [3, 2, 13], [(.fld 3 0, 2100, .int .i64)], []⟩
def lv55c : Nat → Option Norm := norms [(4, nm55c_0), (10, nm55c_1)]
def en55c : End := ⟨[], ⟨[], [], [(.slot 50, 1500, .int .i64)], []⟩⟩
def dec55c (l : List TV) (o : List (Nat × TO)) : Option (List Int) := match l, o with | [.row 1500], [(1500, .row (.int .i64) x0)] => some (x0) | _, _ => none
noncomputable def K55c_0 (a60c78 : (List Int) → (List (Int × Int × Unit)) → Option (List Int × List (Int × Int × Unit))) (a63 : (List Int) → Int → Option (Bool)) (a70c : (List Int) → Option (List Int)) (a76cv2 : Int → (List (Int × Int × Unit)) → (List Int) → Option (Bool × List (Int × Int × Unit) × List Int)) (N : Nat) : Kont (List Int) := kont (E55c a60c78 a63 a70c a76cv2) lv55c N c55c [1, 1, 1, 0, 1, 0] (fin TI en55c (resOf Try.f55) dec55c)
noncomputable def R55c_0 (a60c78 : (List Int) → (List (Int × Int × Unit)) → Option (List Int × List (Int × Int × Unit))) (a63 : (List Int) → Int → Option (Bool)) (a70c : (List Int) → Option (List Int)) (a76cv2 : Int → (List (Int × Int × Unit)) → (List Int) → Option (Bool × List (Int × Int × Unit) × List Int)) (N : Nat) (m : Nat) : TS → Option (List Int) := loopK (den (E55c a60c78 a63 a70c a76cv2) lv55c N (sub c55c [1, 1, 1, 0, 1, 0, 0])) (TS.norm nm55c_0) (K55c_0 a60c78 a63 a70c a76cv2 N) m
noncomputable def K55c_1 (a60c78 : (List Int) → (List (Int × Int × Unit)) → Option (List Int × List (Int × Int × Unit))) (a63 : (List Int) → Int → Option (Bool)) (a70c : (List Int) → Option (List Int)) (a76cv2 : Int → (List (Int × Int × Unit)) → (List Int) → Option (Bool × List (Int × Int × Unit) × List Int)) (N : Nat) : Kont (List Int) := kont (E55c a60c78 a63 a70c a76cv2) lv55c N c55c [1, 1, 1, 1, 1, 0, 1, 0] (fin TI en55c (resOf Try.f55) dec55c)
noncomputable def R55c_1 (a60c78 : (List Int) → (List (Int × Int × Unit)) → Option (List Int × List (Int × Int × Unit))) (a63 : (List Int) → Int → Option (Bool)) (a70c : (List Int) → Option (List Int)) (a76cv2 : Int → (List (Int × Int × Unit)) → (List Int) → Option (Bool × List (Int × Int × Unit) × List Int)) (N : Nat) (m : Nat) : TS → Option (List Int) := loopK (den (E55c a60c78 a63 a70c a76cv2) lv55c N (sub c55c [1, 1, 1, 1, 1, 0, 1, 0, 0])) (TS.norm nm55c_1) (K55c_1 a60c78 a63 a70c a76cv2 N) m
def Sl55cb (r1 : List Int × List (Int × Int × Unit)) (t29_b : Int) (o2100_b : List Int) (o2_bf0 : List (Int × Int × Unit)) : TS := ⟨slots 50 [(3, .ptr 3 0 [0]), (5, .fn 76 0 2 fun i => ([.ptr 2 0 [0], .ptr 3 0 [0]] : List TV).getD i .any), (27, .row 13), (28, .dv (.int .i64) (r1.1.length : Int)), (29, .dv (.int .i64) t29_b)], [(2100, .row (.int .i64) o2100_b), (3, .rcd [.row 2100]), (2, .rcd [.dv (.sl (.pair (.int .i64) (.pair (.int .i64) (.unit)))) o2_bf0]), (13, .row (.int .i64) r1.1)]⟩
def Sl55ca (l0 : List (Int × Int × Unit)) (t16_a : Int) (o13_a : List Int) : TS := ⟨slots 50 [(2, .ptr 2 0 [0]), (3, .ptr 3 0 [0]), (5, .fn 76 0 2 fun i => ([.ptr 2 0 [0], .ptr 3 0 [0]] : List TV).getD i .any), (6, .row 13), (15, .dv (.int .i64) ((List.replicate ((l0.length : Int).toNat) (0 : Int)).length : Int)), (16, .dv (.int .i64) t16_a)], [(2, .rcd [.dv (.sl (.pair (.int .i64) (.pair (.int .i64) (.unit)))) l0]), (3, .rcd [.nl]), (13, .row (.int .i64) o13_a)]⟩
def l55cb (a60c78 : (List Int) → (List (Int × Int × Unit)) → Option (List Int × List (Int × Int × Unit))) (a63 : (List Int) → Int → Option (Bool)) (a70c : (List Int) → Option (List Int)) (a76cv2 : Int → (List (Int × Int × Unit)) → (List Int) → Option (Bool × List (Int × Int × Unit) × List Int)) (N : Nat) (r1 : List Int × List (Int × Int × Unit)) : Nat → Int → (List Int) → (List (Int × Int × Unit)) → Option (List Int)
  | 0, _, _, _ => none
  | n + 1, t29_b, o2100_b, o2_bf0 => cond (decide (t29_b < (r1.1.length : Int))) (chk (decide (0 ≤ t29_b ∧ t29_b < (r1.1.length : Int))) ((a63 o2100_b (r1.1.getD t29_b.toNat (0 : Int))).bind fun r2 =>
      cond (!r2) ((a76cv2 (r1.1.getD t29_b.toNat (0 : Int)) o2_bf0 o2100_b).bind fun r3 =>
      cond (r3.1) (chk (small (r3.2.2.length + 1) 8) ((l55cb a60c78 a63 a70c a76cv2 N r1 n (w64 (t29_b + (1 : Int))) (r3.2.2 ++ ([r1.1.getD t29_b.toNat (0 : Int)] : List Int)) r3.2.1)))
      ((l55cb a60c78 a63 a70c a76cv2 N r1 n (w64 (t29_b + (1 : Int))) r3.2.2 r3.2.1)))
      ((l55cb a60c78 a63 a70c a76cv2 N r1 n (w64 (t29_b + (1 : Int))) o2100_b o2_bf0))))
      ((a70c o2100_b).bind fun r4 =>
      some r4)
theorem wl55cb (a60c78 : (List Int) → (List (Int × Int × Unit)) → Option (List Int × List (Int × Int × Unit))) (a63 : (List Int) → Int → Option (Bool)) (a70c : (List Int) → Option (List Int)) (a76cv2 : Int → (List (Int × Int × Unit)) → (List Int) → Option (Bool × List (Int × Int × Unit) × List Int)) (N : Nat) (r1 : List Int × List (Int × Int × Unit)) (m : Nat) (t29_b : Int) (o2100_b : List Int) (o2_bf0 : List (Int × Int × Unit)) : R55c_1 a60c78 a63 a70c a76cv2 N (m + 1) (Sl55cb r1 t29_b o2100_b o2_bf0) = cond (decide (t29_b < (r1.1.length : Int))) (chk (decide (0 ≤ t29_b ∧ t29_b < (r1.1.length : Int))) ((a63 o2100_b (r1.1.getD t29_b.toNat (0 : Int))).bind fun r2 =>
      cond (!r2) ((a76cv2 (r1.1.getD t29_b.toNat (0 : Int)) o2_bf0 o2100_b).bind fun r3 =>
      cond (r3.1) (chk (small (r3.2.2.length + 1) 8) ((R55c_1 a60c78 a63 a70c a76cv2 N m (Sl55cb r1 (w64 (t29_b + (1 : Int))) (r3.2.2 ++ ([r1.1.getD t29_b.toNat (0 : Int)] : List Int)) r3.2.1))))
      ((R55c_1 a60c78 a63 a70c a76cv2 N m (Sl55cb r1 (w64 (t29_b + (1 : Int))) r3.2.2 r3.2.1))))
      ((R55c_1 a60c78 a63 a70c a76cv2 N m (Sl55cb r1 (w64 (t29_b + (1 : Int))) o2100_b o2_bf0)))))
      ((a70c o2100_b).bind fun r4 =>
      some r4) := by kernel_rfl
theorem ql55cb (a60c78 : (List Int) → (List (Int × Int × Unit)) → Option (List Int × List (Int × Int × Unit))) (a63 : (List Int) → Int → Option (Bool)) (a70c : (List Int) → Option (List Int)) (a76cv2 : Int → (List (Int × Int × Unit)) → (List Int) → Option (Bool × List (Int × Int × Unit) × List Int)) (N : Nat) (r1 : List Int × List (Int × Int × Unit)) : ∀ (m : Nat) (t29_b : Int) (o2100_b : List Int) (o2_bf0 : List (Int × Int × Unit)), R55c_1 a60c78 a63 a70c a76cv2 N m (Sl55cb r1 t29_b o2100_b o2_bf0) = l55cb a60c78 a63 a70c a76cv2 N r1 m t29_b o2100_b o2_bf0
        | 0, _, _, _ => rfl
        | m + 1, t29_b, o2100_b, o2_bf0 => by rw [wl55cb]; simp only [l55cb, ql55cb a60c78 a63 a70c a76cv2 N r1 m]
def l55ca (a60c78 : (List Int) → (List (Int × Int × Unit)) → Option (List Int × List (Int × Int × Unit))) (a63 : (List Int) → Int → Option (Bool)) (a70c : (List Int) → Option (List Int)) (a76cv2 : Int → (List (Int × Int × Unit)) → (List Int) → Option (Bool × List (Int × Int × Unit) × List Int)) (N : Nat) (l0 : List (Int × Int × Unit)) : Nat → Int → (List Int) → Option (List Int)
  | 0, _, _ => none
  | n + 1, t16_a, o13_a => cond (decide (t16_a < ((List.replicate ((l0.length : Int).toNat) (0 : Int)).length : Int))) (chk (decide (0 ≤ t16_a ∧ t16_a < (o13_a.length : Int))) ((l55ca a60c78 a63 a70c a76cv2 N l0 n (w64 (t16_a + (1 : Int))) (o13_a.set t16_a.toNat t16_a))))
      ((a60c78 o13_a l0).bind fun r1 =>
      (l55cb a60c78 a63 a70c a76cv2 N r1 N (0 : Int) ([] : List Int) r1.2))
theorem wl55ca (a60c78 : (List Int) → (List (Int × Int × Unit)) → Option (List Int × List (Int × Int × Unit))) (a63 : (List Int) → Int → Option (Bool)) (a70c : (List Int) → Option (List Int)) (a76cv2 : Int → (List (Int × Int × Unit)) → (List Int) → Option (Bool × List (Int × Int × Unit) × List Int)) (N : Nat) (l0 : List (Int × Int × Unit)) (m : Nat) (t16_a : Int) (o13_a : List Int) : R55c_0 a60c78 a63 a70c a76cv2 N (m + 1) (Sl55ca l0 t16_a o13_a) = cond (decide (t16_a < ((List.replicate ((l0.length : Int).toNat) (0 : Int)).length : Int))) (chk (decide (0 ≤ t16_a ∧ t16_a < (o13_a.length : Int))) ((R55c_0 a60c78 a63 a70c a76cv2 N m (Sl55ca l0 (w64 (t16_a + (1 : Int))) (o13_a.set t16_a.toNat t16_a)))))
      ((a60c78 o13_a l0).bind fun r1 =>
      (R55c_1 a60c78 a63 a70c a76cv2 N N (Sl55cb r1 (0 : Int) ([] : List Int) r1.2))) := by kernel_rfl
theorem ql55ca (a60c78 : (List Int) → (List (Int × Int × Unit)) → Option (List Int × List (Int × Int × Unit))) (a63 : (List Int) → Int → Option (Bool)) (a70c : (List Int) → Option (List Int)) (a76cv2 : Int → (List (Int × Int × Unit)) → (List Int) → Option (Bool × List (Int × Int × Unit) × List Int)) (N : Nat) (l0 : List (Int × Int × Unit)) : ∀ (m : Nat) (t16_a : Int) (o13_a : List Int), R55c_0 a60c78 a63 a70c a76cv2 N m (Sl55ca l0 t16_a o13_a) = l55ca a60c78 a63 a70c a76cv2 N l0 m t16_a o13_a
        | 0, _, _ => rfl
        | m + 1, t16_a, o13_a => by rw [wl55ca]; simp only [l55ca, ql55cb, ql55ca a60c78 a63 a70c a76cv2 N l0 m]
def m55c (a60c78 : (List Int) → (List (Int × Int × Unit)) → Option (List Int × List (Int × Int × Unit))) (a63 : (List Int) → Int → Option (Bool)) (a70c : (List Int) → Option (List Int)) (a76cv2 : Int → (List (Int × Int × Unit)) → (List Int) → Option (Bool × List (Int × Int × Unit) × List Int)) (N : Nat) (l0 : List (Int × Int × Unit)) : Option (List Int) :=
      chk (mkOk (l0.length : Int) (l0.length : Int) 8) ((l55ca a60c78 a63 a70c a76cv2 N l0 N (0 : Int) (List.replicate ((l0.length : Int).toNat) (0 : Int))))
theorem wm55c (a60c78 : (List Int) → (List (Int × Int × Unit)) → Option (List Int × List (Int × Int × Unit))) (a63 : (List Int) → Int → Option (Bool)) (a70c : (List Int) → Option (List Int)) (a76cv2 : Int → (List (Int × Int × Unit)) → (List Int) → Option (Bool × List (Int × Int × Unit) × List Int)) (N : Nat) (l0 : List (Int × Int × Unit)) : callF (E55c a60c78 a63 a70c a76cv2) lv55c N en55c c55c (resOf Try.f55) 48 [.dv (.sl (.pair (.int .i64) (.pair (.int .i64) (.unit)))) l0, .nl] [] dec55c = chk (mkOk (l0.length : Int) (l0.length : Int) 8) ((R55c_0 a60c78 a63 a70c a76cv2 N N (Sl55ca l0 (0 : Int) (List.replicate ((l0.length : Int).toNat) (0 : Int))))) := by kernel_rfl
theorem k55c (a60c78 : (List Int) → (List (Int × Int × Unit)) → Option (List Int × List (Int × Int × Unit))) (a63 : (List Int) → Int → Option (Bool)) (a70c : (List Int) → Option (List Int)) (a76cv2 : Int → (List (Int × Int × Unit)) → (List Int) → Option (Bool × List (Int × Int × Unit) × List Int)) (N : Nat) (l0 : List (Int × Int × Unit)) : callF (E55c a60c78 a63 a70c a76cv2) lv55c N en55c c55c (resOf Try.f55) 48 [.dv (.sl (.pair (.int .i64) (.pair (.int .i64) (.unit)))) l0, .nl] [] dec55c = m55c a60c78 a63 a70c a76cv2 N l0 := by rw [wm55c]; simp only [m55c, ql55ca]
theorem ok55c (a60c78 : (List Int) → (List (Int × Int × Unit)) → Option (List Int × List (Int × Int × Unit))) (a63 : (List Int) → Int → Option (Bool)) (a70c : (List Int) → Option (List Int)) (a76cv2 : Int → (List (Int × Int × Unit)) → (List Int) → Option (Bool × List (Int × Int × Unit) × List Int)) (h60c78 : FnOk Try.prog 60 (F60c78 a60c78)) (h63 : FnOk Try.prog 63 (F63 a63)) (h70c : FnOk Try.prog 70 (F70c a70c)) (h76cv2 : FnOk Try.prog 76 (F76cv2 a76cv2)) (a : (List (Int × Int × Unit)) → Option (List Int)) (h : ∀ l0 r, a l0 = some r → (∃ N, m55c a60c78 a63 a70c a76cv2 N l0 = some r)) : FnOk Try.prog 55 (F55c a) := by
  intro args Of x hx
  simp only [F55c] at hx
  split at hx
  · rename_i l0
    obtain ⟨N, hN⟩ := h _ _ hx
    refine lifted (L := [(60, F60c78 a60c78), (63, F63 a63), (70, F70c a70c), (76, F76cv2 a76cv2)]) (rc := nrc) (fz := nfz) (fn := Try.f55) (by kernel_rfl) (by kernel_rfl) (by kernel_rfl) (by kernel_rfl) rfl ?_ ((k55c a60c78 a63 a70c a76cv2 N _).trans hN) ?_
    · intro p hp; simp only [List.mem_cons, List.not_mem_nil, or_false] at hp; rcases hp with rfl | rfl | rfl | rfl
      · exact h60c78
      · exact h63
      · exact h70c
      · exact h76cv2
    · intro l o hd
      simp only [dec55c] at hd
      split at hd
      · obtain rfl := Option.some.inj hd; exact ⟨rfl, rfl⟩
      · cases hd
  · cases hx
def E20 (a23 : (List (Int × Int × Unit)) → Option (Int)) (a55c : (List (Int × Int × Unit)) → Option (List Int)) : Env := mkE TI TY [(23, F23 a23), (55, F55c a55c)] nrc nfz
noncomputable def c20 : Code := bodyOf Try.f20
def lv20 : Nat → Option Norm := norms []
def en20 : End := ⟨[], ⟨[13], [], [(.slot 12, 1500, .int .i64)], []⟩⟩
def dec20 (l : List TV) (o : List (Nat × TO)) : Option (List Int × Int) := match l, o with | [.row 1500, .dv (.int .i64) x1], [(1500, .row (.int .i64) x0)] => some (x0, x1) | _, _ => none
def m20 (a23 : (List (Int × Int × Unit)) → Option (Int)) (a55c : (List (Int × Int × Unit)) → Option (List Int)) (N : Nat) (l0 : List (Int × Int × Unit)) : Option (List Int × Int) :=
      (a23 l0).bind fun r1 =>
      cond (r1 != (0 : Int)) (some (([] : List Int), r1))
      ((a55c l0).bind fun r2 =>
      some (r2, (0 : Int)))
theorem k20 (a23 : (List (Int × Int × Unit)) → Option (Int)) (a55c : (List (Int × Int × Unit)) → Option (List Int)) (N : Nat) (l0 : List (Int × Int × Unit)) : callF (E20 a23 a55c) lv20 N en20 c20 (resOf Try.f20) 11 [.dv (.sl (.pair (.int .i64) (.pair (.int .i64) (.unit)))) l0] [] dec20 = m20 a23 a55c N l0 := by kernel_rfl
theorem ok20 (a23 : (List (Int × Int × Unit)) → Option (Int)) (a55c : (List (Int × Int × Unit)) → Option (List Int)) (h23 : FnOk Try.prog 23 (F23 a23)) (h55c : FnOk Try.prog 55 (F55c a55c)) (a : (List (Int × Int × Unit)) → Option (List Int × Int)) (h : ∀ l0 r, a l0 = some r → (∃ N, m20 a23 a55c N l0 = some r)) : FnOk Try.prog 20 (F20 a) := by
  intro args Of x hx
  simp only [F20] at hx
  split at hx
  · rename_i l0
    obtain ⟨N, hN⟩ := h _ _ hx
    refine lifted (L := [(23, F23 a23), (55, F55c a55c)]) (rc := nrc) (fz := nfz) (fn := Try.f20) (by kernel_rfl) (by kernel_rfl) (by kernel_rfl) (by kernel_rfl) rfl ?_ ((k20 a23 a55c N _).trans hN) ?_
    · intro p hp; simp only [List.mem_cons, List.not_mem_nil, or_false] at hp; rcases hp with rfl | rfl
      · exact h23
      · exact h55c
    · intro l o hd
      simp only [dec20] at hd
      split at hd
      · obtain rfl := Option.some.inj hd; exact ⟨rfl, rfl⟩
      · cases hd
  · cases hx
def E22 : Env := mkE TI TY [] nrc nfz
noncomputable def c22 : Code := bodyOf Try.f22
def nm22_0 : Norm := ⟨[0, 1, 5], [], [], []⟩
def lv22 : Nat → Option Norm := norms [(4, nm22_0)]
def en22 : End := ⟨[], ⟨[26], [], [], []⟩⟩
def dec22 (l : List TV) (o : List (Nat × TO)) : Option (Bool) := match l, o with | [.dv (.bool) x0], [] => some (x0) | _, _ => none
noncomputable def K22_0 (N : Nat) : Kont (Bool) := kont (E22) lv22 N c22 [1, 1, 0, 1, 0] (fin TI en22 (resOf Try.f22) dec22)
noncomputable def R22_0 (N : Nat) (m : Nat) : TS → Option (Bool) := loopK (den (E22) lv22 N (sub c22 [1, 1, 0, 1, 0, 0])) (TS.norm nm22_0) (K22_0 N) m
def Sl22a (a0 : List Int) (b1 : List Int) (i5_a : Int) : TS := ⟨slots 26 [(0, .dv (.sl (.int .i64)) a0), (1, .dv (.sl (.int .i64)) b1), (5, .dv (.int .i64) i5_a)], []⟩
def l22a (N : Nat) (a0 : List Int) (b1 : List Int) : Nat → Int → Option (Bool)
  | 0, _ => none
  | n + 1, i5_a => cond (decide (i5_a < (a0.length : Int))) (chk (decide (0 ≤ i5_a ∧ i5_a < (a0.length : Int))) (chk (decide (0 ≤ i5_a ∧ i5_a < (b1.length : Int))) (cond ((a0.getD i5_a.toNat (0 : Int)) != (b1.getD i5_a.toNat (0 : Int))) (some false)
      ((l22a N a0 b1 n (w64 (i5_a + (1 : Int))))))))
      (some true)
theorem wl22a (N : Nat) (a0 : List Int) (b1 : List Int) (m : Nat) (i5_a : Int) : R22_0 N (m + 1) (Sl22a a0 b1 i5_a) = cond (decide (i5_a < (a0.length : Int))) (chk (decide (0 ≤ i5_a ∧ i5_a < (a0.length : Int))) (chk (decide (0 ≤ i5_a ∧ i5_a < (b1.length : Int))) (cond ((a0.getD i5_a.toNat (0 : Int)) != (b1.getD i5_a.toNat (0 : Int))) (some false)
      ((R22_0 N m (Sl22a a0 b1 (w64 (i5_a + (1 : Int)))))))))
      (some true) := by kernel_rfl
theorem ql22a (N : Nat) (a0 : List Int) (b1 : List Int) : ∀ (m : Nat) (i5_a : Int), R22_0 N m (Sl22a a0 b1 i5_a) = l22a N a0 b1 m i5_a
        | 0, _ => rfl
        | m + 1, i5_a => by rw [wl22a]; simp only [l22a, ql22a N a0 b1 m]
def m22 (N : Nat) (a0 : List Int) (b1 : List Int) : Option (Bool) :=
      cond ((a0.length : Int) != (b1.length : Int)) (some false)
      ((l22a N a0 b1 N (0 : Int)))
theorem wm22 (N : Nat) (a0 : List Int) (b1 : List Int) : callF (E22) lv22 N en22 c22 (resOf Try.f22) 24 [.dv (.sl (.int .i64)) a0, .dv (.sl (.int .i64)) b1] [] dec22 = cond ((a0.length : Int) != (b1.length : Int)) (some false)
      ((R22_0 N N (Sl22a a0 b1 (0 : Int)))) := by kernel_rfl
theorem k22 (N : Nat) (a0 : List Int) (b1 : List Int) : callF (E22) lv22 N en22 c22 (resOf Try.f22) 24 [.dv (.sl (.int .i64)) a0, .dv (.sl (.int .i64)) b1] [] dec22 = m22 N a0 b1 := by rw [wm22]; simp only [m22, ql22a]
theorem ok22 (a : (List Int) → (List Int) → Option (Bool)) (h : ∀ a0 b1 r, a a0 b1 = some r → (∃ N, m22 N a0 b1 = some r)) : FnOk Try.prog 22 (F22 a) := by
  intro args Of x hx
  simp only [F22] at hx
  split at hx
  · rename_i a0 b1
    obtain ⟨N, hN⟩ := h _ _ _ hx
    refine lifted (L := []) (rc := nrc) (fz := nfz) (fn := Try.f22) (by kernel_rfl) (by kernel_rfl) (by kernel_rfl) (by kernel_rfl) rfl ?_ ((k22 N _ _).trans hN) ?_
    · intro p hp; cases hp
    · intro l o hd
      simp only [dec22] at hd
      split at hd
      · obtain rfl := Option.some.inj hd; exact ⟨rfl, rfl⟩
      · cases hd
  · cases hx
def E61c (a62 : Int → Int → Option (Int)) : Env := mkE TI TY [(62, F62 a62)] nrc nfz
noncomputable def c61c : Code := bodyOf Try.f61
def lv61c : Nat → Option Norm := norms []
def en61c : End := ⟨[], ⟨[17], [9000], [], []⟩⟩
def dec61c (l : List TV) (o : List (Nat × TO)) : Option (Int × List (Int × Int × Unit)) := match l, o with | [.dv (.int .i64) x0], [(9000, .rcd [.dv (.sl (.pair (.int .i64) (.pair (.int .i64) (.unit)))) x1])] => some (x0, x1) | _, _ => none
def m61c (a62 : Int → Int → Option (Int)) (N : Nat) (a0 : Int) (b1 : Int) (p2 : List (Int × Int × Unit)) : Option (Int × List (Int × Int × Unit)) :=
      chk (decide (0 ≤ a0 ∧ a0 < (p2.length : Int))) (chk (decide (0 ≤ b1 ∧ b1 < (p2.length : Int))) ((a62 ((p2.getD a0.toNat ((0 : Int), ((0 : Int), ()))).1) ((p2.getD b1.toNat ((0 : Int), ((0 : Int), ()))).1)).bind fun r1 =>
      some (r1, p2)))
theorem k61c (a62 : Int → Int → Option (Int)) (N : Nat) (a0 : Int) (b1 : Int) (p2 : List (Int × Int × Unit)) : callF (E61c a62) lv61c N en61c c61c (resOf Try.f61) 14 [.dv (.int .i64) a0, .dv (.int .i64) b1, .ptr 9000 0 [0]] [(9000, .rcd [.dv (.sl (.pair (.int .i64) (.pair (.int .i64) (.unit)))) p2])] dec61c = m61c a62 N a0 b1 p2 := by kernel_rfl
theorem ok61c (a62 : Int → Int → Option (Int)) (h62 : FnOk Try.prog 62 (F62 a62)) (a : Int → Int → (List (Int × Int × Unit)) → Option (Int × List (Int × Int × Unit))) (h : ∀ a0 b1 p2 r, a a0 b1 p2 = some r → (∃ N, m61c a62 N a0 b1 p2 = some r)) : FnOk Try.prog 61 (F61c a) := by
  intro args Of x hx
  simp only [F61c] at hx
  split at hx
  · rename_i a0 b1 p2
    obtain ⟨N, hN⟩ := h _ _ _ _ hx
    refine lifted (L := [(62, F62 a62)]) (rc := nrc) (fz := nfz) (fn := Try.f61) (by kernel_rfl) (by kernel_rfl) (by kernel_rfl) (by kernel_rfl) rfl ?_ ((k61c a62 N _ _ _).trans hN) ?_
    · intro p hp; simp only [List.mem_cons, List.not_mem_nil, or_false] at hp; rcases hp with rfl; exact h62
    · intro l o hd
      simp only [dec61c] at hd
      split at hd
      · obtain rfl := Option.some.inj hd; exact ⟨rfl, rfl⟩
      · cases hd
  · cases hx
def E86c61 (a61c : Int → Int → (List (Int × Int × Unit)) → Option (Int × List (Int × Int × Unit))) : Env := mkE TI TY [(61, F61c a61c)] nrc nfz
noncomputable def c86c61 : Code := bodyOf Try.f86
def nm86c61_0 : Norm := ⟨[0, 1, 2, 3, 8], [9000, 9001], [], []⟩
def nm86c61_1 : Norm := ⟨[0, 1, 2, 3, 8, 9], [9000, 9001], [], []⟩
def lv86c61 : Nat → Option Norm := norms [(1, nm86c61_0), (4, nm86c61_1)]
def en86c61 : End := ⟨[], ⟨[], [9000, 9001], [], []⟩⟩
def dec86c61 (l : List TV) (o : List (Nat × TO)) : Option (List Int × List (Int × Int × Unit)) := match l, o with | [], [(9000, .row (.int .i64) x0), (9001, .rcd [.dv (.sl (.pair (.int .i64) (.pair (.int .i64) (.unit)))) x1])] => some (x0, x1) | _, _ => none
noncomputable def K86c61_0 (a61c : Int → Int → (List (Int × Int × Unit)) → Option (Int × List (Int × Int × Unit))) (N : Nat) : Kont (List Int × List (Int × Int × Unit)) := kont (E86c61 a61c) lv86c61 N c86c61 [1, 0] (fin TI en86c61 (resOf Try.f86) dec86c61)
noncomputable def R86c61_0 (a61c : Int → Int → (List (Int × Int × Unit)) → Option (Int × List (Int × Int × Unit))) (N : Nat) (m : Nat) : TS → Option (List Int × List (Int × Int × Unit)) := loopK (den (E86c61 a61c) lv86c61 N (sub c86c61 [1, 0, 0])) (TS.norm nm86c61_0) (K86c61_0 a61c N) m
noncomputable def K86c61_1 (a61c : Int → Int → (List (Int × Int × Unit)) → Option (Int × List (Int × Int × Unit))) (N : Nat) (T86c61_0 : TS → Option (List Int × List (Int × Int × Unit))) : Kont (List Int × List (Int × Int × Unit)) := kont (E86c61 a61c) lv86c61 N (sub c86c61 [1, 0, 0]) [1, 0, 0, 1, 0] (kloop (TS.norm nm86c61_0) (K86c61_0 a61c N) T86c61_0)
noncomputable def R86c61_1 (a61c : Int → Int → (List (Int × Int × Unit)) → Option (Int × List (Int × Int × Unit))) (N : Nat) (T86c61_0 : TS → Option (List Int × List (Int × Int × Unit))) (m : Nat) : TS → Option (List Int × List (Int × Int × Unit)) := loopK (den (E86c61 a61c) lv86c61 N (sub c86c61 [1, 0, 0, 1, 0, 0, 1, 0, 0])) (TS.norm nm86c61_1) (K86c61_1 a61c N T86c61_0) m
def Sl86c61b (a1 : Int) (b2 : Int) (i8_a : Int) (j9_b : Int) (o9000_b : List Int) (o9001_bf0 : List (Int × Int × Unit)) : TS := ⟨slots 53 [(0, .row 9000), (1, .dv (.int .i64) a1), (2, .dv (.int .i64) b2), (3, .fn 61 0 1 fun i => ([.ptr 9001 0 [0]] : List TV).getD i .any), (8, .dv (.int .i64) i8_a), (9, .dv (.int .i64) j9_b)], [(9000, .row (.int .i64) o9000_b), (9001, .rcd [.dv (.sl (.pair (.int .i64) (.pair (.int .i64) (.unit)))) o9001_bf0])]⟩
def Sl86c61a (a1 : Int) (b2 : Int) (i8_a : Int) (o9000_a : List Int) (o9001_af0 : List (Int × Int × Unit)) : TS := ⟨slots 53 [(0, .row 9000), (1, .dv (.int .i64) a1), (2, .dv (.int .i64) b2), (3, .fn 61 0 1 fun i => ([.ptr 9001 0 [0]] : List TV).getD i .any), (8, .dv (.int .i64) i8_a)], [(9000, .row (.int .i64) o9000_a), (9001, .rcd [.dv (.sl (.pair (.int .i64) (.pair (.int .i64) (.unit)))) o9001_af0])]⟩
def l86c61b (a61c : Int → Int → (List (Int × Int × Unit)) → Option (Int × List (Int × Int × Unit))) (N : Nat) (a1 : Int) (b2 : Int) (i8_a : Int) (rec_l86c61a : Int → (List Int) → (List (Int × Int × Unit)) → Option (List Int × List (Int × Int × Unit))) : Nat → Int → (List Int) → (List (Int × Int × Unit)) → Option (List Int × List (Int × Int × Unit))
  | 0, _, _, _ => none
  | n + 1, j9_b, o9000_b, o9001_bf0 => cond (decide (j9_b > a1)) (chk (decide (0 ≤ j9_b ∧ j9_b < (o9000_b.length : Int))) (chk (decide (0 ≤ w64 (j9_b - (1 : Int)) ∧ w64 (j9_b - (1 : Int)) < (o9000_b.length : Int))) ((a61c (o9000_b.getD j9_b.toNat (0 : Int)) (o9000_b.getD ((w64 (j9_b - (1 : Int))).toNat) (0 : Int)) o9001_bf0).bind fun r1 =>
      cond (decide (r1.1 < (0 : Int))) (chk (decide (0 ≤ w64 (j9_b - (1 : Int)) ∧ w64 (j9_b - (1 : Int)) < (o9000_b.length : Int))) (chk (decide (0 ≤ j9_b ∧ j9_b < (o9000_b.length : Int))) (chk (decide (0 ≤ j9_b ∧ j9_b < (o9000_b.length : Int))) (chk (decide (0 ≤ w64 (j9_b - (1 : Int)) ∧ w64 (j9_b - (1 : Int)) < ((o9000_b.set j9_b.toNat (o9000_b.getD ((w64 (j9_b - (1 : Int))).toNat) (0 : Int))).length : Int))) ((l86c61b a61c N a1 b2 i8_a rec_l86c61a n (w64 (j9_b - (1 : Int))) ((o9000_b.set j9_b.toNat (o9000_b.getD ((w64 (j9_b - (1 : Int))).toNat) (0 : Int))).set ((w64 (j9_b - (1 : Int))).toNat) (o9000_b.getD j9_b.toNat (0 : Int))) r1.2))))))
      ((rec_l86c61a (w64 (i8_a + (1 : Int))) o9000_b r1.2)))))
      ((rec_l86c61a (w64 (i8_a + (1 : Int))) o9000_b o9001_bf0))
theorem wl86c61b (a61c : Int → Int → (List (Int × Int × Unit)) → Option (Int × List (Int × Int × Unit))) (N : Nat) (a1 : Int) (b2 : Int) (i8_a : Int) (T86c61_0 : TS → Option (List Int × List (Int × Int × Unit))) (m : Nat) (j9_b : Int) (o9000_b : List Int) (o9001_bf0 : List (Int × Int × Unit)) : R86c61_1 a61c N T86c61_0 (m + 1) (Sl86c61b a1 b2 i8_a j9_b o9000_b o9001_bf0) = cond (decide (j9_b > a1)) (chk (decide (0 ≤ j9_b ∧ j9_b < (o9000_b.length : Int))) (chk (decide (0 ≤ w64 (j9_b - (1 : Int)) ∧ w64 (j9_b - (1 : Int)) < (o9000_b.length : Int))) ((a61c (o9000_b.getD j9_b.toNat (0 : Int)) (o9000_b.getD ((w64 (j9_b - (1 : Int))).toNat) (0 : Int)) o9001_bf0).bind fun r1 =>
      cond (decide (r1.1 < (0 : Int))) (chk (decide (0 ≤ w64 (j9_b - (1 : Int)) ∧ w64 (j9_b - (1 : Int)) < (o9000_b.length : Int))) (chk (decide (0 ≤ j9_b ∧ j9_b < (o9000_b.length : Int))) (chk (decide (0 ≤ j9_b ∧ j9_b < (o9000_b.length : Int))) (chk (decide (0 ≤ w64 (j9_b - (1 : Int)) ∧ w64 (j9_b - (1 : Int)) < ((o9000_b.set j9_b.toNat (o9000_b.getD ((w64 (j9_b - (1 : Int))).toNat) (0 : Int))).length : Int))) ((R86c61_1 a61c N T86c61_0 m (Sl86c61b a1 b2 i8_a (w64 (j9_b - (1 : Int))) ((o9000_b.set j9_b.toNat (o9000_b.getD ((w64 (j9_b - (1 : Int))).toNat) (0 : Int))).set ((w64 (j9_b - (1 : Int))).toNat) (o9000_b.getD j9_b.toNat (0 : Int))) r1.2)))))))
      ((T86c61_0 (Sl86c61a a1 b2 (w64 (i8_a + (1 : Int))) o9000_b r1.2))))))
      ((T86c61_0 (Sl86c61a a1 b2 (w64 (i8_a + (1 : Int))) o9000_b o9001_bf0))) := by kernel_rfl
theorem ql86c61b (a61c : Int → Int → (List (Int × Int × Unit)) → Option (Int × List (Int × Int × Unit))) (N : Nat) (a1 : Int) (b2 : Int) (i8_a : Int) (T86c61_0 : TS → Option (List Int × List (Int × Int × Unit))) : ∀ (m : Nat) (j9_b : Int) (o9000_b : List Int) (o9001_bf0 : List (Int × Int × Unit)), R86c61_1 a61c N T86c61_0 m (Sl86c61b a1 b2 i8_a j9_b o9000_b o9001_bf0) = l86c61b a61c N a1 b2 i8_a (fun y0 y1 y2 => T86c61_0 (Sl86c61a a1 b2 y0 y1 y2)) m j9_b o9000_b o9001_bf0
        | 0, _, _, _ => rfl
        | m + 1, j9_b, o9000_b, o9001_bf0 => by rw [wl86c61b]; simp only [l86c61b, ql86c61b a61c N a1 b2 i8_a T86c61_0 m]
def l86c61a (a61c : Int → Int → (List (Int × Int × Unit)) → Option (Int × List (Int × Int × Unit))) (N : Nat) (a1 : Int) (b2 : Int) : Nat → Int → (List Int) → (List (Int × Int × Unit)) → Option (List Int × List (Int × Int × Unit))
  | 0, _, _, _ => none
  | n + 1, i8_a, o9000_a, o9001_af0 => cond (decide (i8_a < b2)) ((l86c61b a61c N a1 b2 i8_a (fun y0 y1 y2 => (l86c61a a61c N a1 b2 n y0 y1 y2)) N i8_a o9000_a o9001_af0))
      (some (o9000_a, o9001_af0))
theorem wl86c61a (a61c : Int → Int → (List (Int × Int × Unit)) → Option (Int × List (Int × Int × Unit))) (N : Nat) (a1 : Int) (b2 : Int) (m : Nat) (i8_a : Int) (o9000_a : List Int) (o9001_af0 : List (Int × Int × Unit)) : R86c61_0 a61c N (m + 1) (Sl86c61a a1 b2 i8_a o9000_a o9001_af0) = cond (decide (i8_a < b2)) ((R86c61_1 a61c N (R86c61_0 a61c N m) N (Sl86c61b a1 b2 i8_a i8_a o9000_a o9001_af0)))
      (some (o9000_a, o9001_af0)) := by kernel_rfl
theorem ql86c61a (a61c : Int → Int → (List (Int × Int × Unit)) → Option (Int × List (Int × Int × Unit))) (N : Nat) (a1 : Int) (b2 : Int) : ∀ (m : Nat) (i8_a : Int) (o9000_a : List Int) (o9001_af0 : List (Int × Int × Unit)), R86c61_0 a61c N m (Sl86c61a a1 b2 i8_a o9000_a o9001_af0) = l86c61a a61c N a1 b2 m i8_a o9000_a o9001_af0
        | 0, _, _, _ => rfl
        | m + 1, i8_a, o9000_a, o9001_af0 => by rw [wl86c61a]; simp only [l86c61a, ql86c61b, ql86c61a a61c N a1 b2 m]
def m86c61 (a61c : Int → Int → (List (Int × Int × Unit)) → Option (Int × List (Int × Int × Unit))) (N : Nat) (a1 : Int) (b2 : Int) (p2 : List Int) (p3 : List (Int × Int × Unit)) : Option (List Int × List (Int × Int × Unit)) :=
      (l86c61a a61c N a1 b2 N (w64 (a1 + (1 : Int))) p2 p3)
theorem wm86c61 (a61c : Int → Int → (List (Int × Int × Unit)) → Option (Int × List (Int × Int × Unit))) (N : Nat) (a1 : Int) (b2 : Int) (p2 : List Int) (p3 : List (Int × Int × Unit)) : callF (E86c61 a61c) lv86c61 N en86c61 c86c61 (resOf Try.f86) 49 [.row 9000, .dv (.int .i64) a1, .dv (.int .i64) b2, .fn 61 0 1 fun i => ([.ptr 9001 0 [0]] : List TV).getD i .any] [(9000, .row (.int .i64) p2), (9001, .rcd [.dv (.sl (.pair (.int .i64) (.pair (.int .i64) (.unit)))) p3])] dec86c61 = (R86c61_0 a61c N N (Sl86c61a a1 b2 (w64 (a1 + (1 : Int))) p2 p3)) := by kernel_rfl
theorem k86c61 (a61c : Int → Int → (List (Int × Int × Unit)) → Option (Int × List (Int × Int × Unit))) (N : Nat) (a1 : Int) (b2 : Int) (p2 : List Int) (p3 : List (Int × Int × Unit)) : callF (E86c61 a61c) lv86c61 N en86c61 c86c61 (resOf Try.f86) 49 [.row 9000, .dv (.int .i64) a1, .dv (.int .i64) b2, .fn 61 0 1 fun i => ([.ptr 9001 0 [0]] : List TV).getD i .any] [(9000, .row (.int .i64) p2), (9001, .rcd [.dv (.sl (.pair (.int .i64) (.pair (.int .i64) (.unit)))) p3])] dec86c61 = m86c61 a61c N a1 b2 p2 p3 := by rw [wm86c61]; simp only [m86c61, ql86c61a]
theorem ok86c61 (a61c : Int → Int → (List (Int × Int × Unit)) → Option (Int × List (Int × Int × Unit))) (h61c : FnOk Try.prog 61 (F61c a61c)) (a : Int → Int → (List Int) → (List (Int × Int × Unit)) → Option (List Int × List (Int × Int × Unit))) (h : ∀ a1 b2 p2 p3 r, a a1 b2 p2 p3 = some r → (∃ N, m86c61 a61c N a1 b2 p2 p3 = some r)) : FnOk Try.prog 86 (F86c61 a) := by
  intro args Of x hx
  simp only [F86c61] at hx
  split at hx
  · rename_i a1 b2 f_0 p2 p3 heqc
    have hc0 := congrArg (fun c : List (List TV) => c.getD 0 []) heqc
    obtain ⟨N, hN⟩ := h _ _ _ _ _ hx
    refine HSpec.etaL (args := [.row 9000, .dv (.int .i64) a1, .dv (.int .i64) b2, .fn 61 0 1 fun i => ([.ptr 9001 0 [0]] : List TV).getD i .any]) (O := [(9000, .row (.int .i64) p2), (9001, .rcd [.dv (.sl (.pair (.int .i64) (.pair (.int .i64) (.unit)))) p3])]) ⟨TV.sim_refl _, TV.sim_refl _, TV.sim_refl _, TV.sim_fn hc0, trivial⟩ ⟨rfl, TO.sim_refl _, rfl, TO.sim_refl _, trivial⟩ (lifted (L := [(61, F61c a61c)]) (rc := nrc) (fz := nfz) (fn := Try.f86) (by kernel_rfl) (by kernel_rfl) (by kernel_rfl) (by kernel_rfl) rfl ?_ ((k86c61 a61c N _ _ _ _).trans hN) ?_)
    · intro p hp; simp only [List.mem_cons, List.not_mem_nil, or_false] at hp; rcases hp with rfl; exact h61c
    · intro l o hd
      simp only [dec86c61] at hd
      split at hd
      · obtain rfl := Option.some.inj hd; exact ⟨rfl, rfl⟩
      · cases hd
  · cases hx
def E79c61 (a86c61 : Int → Int → (List Int) → (List (Int × Int × Unit)) → Option (List Int × List (Int × Int × Unit))) (a87c61 : Int → Int → Int → (List Int) → (List (Int × Int × Unit)) → Option (List Int × List (Int × Int × Unit))) : Env := mkE TI TY [(86, F86c61 a86c61), (87, F87c61 a87c61)] nrc nfz
noncomputable def c79c61 : Code := bodyOf Try.f79
def nm79c61_0 : Norm := ⟨[0, 1, 2, 6, 7, 8], [9000, 9001], [], []⟩
def nm79c61_1 : Norm := ⟨[0, 1, 2, 6], [9000, 9001], [], []⟩
def nm79c61_2 : Norm := ⟨[0, 1, 2, 6, 7, 8], [9000, 9001], [], []⟩
def lv79c61 : Nat → Option Norm := norms [(2, nm79c61_0), (7, nm79c61_1), (9, nm79c61_2)]
def en79c61 : End := ⟨[], ⟨[], [9000, 9001], [], []⟩⟩
def dec79c61 (l : List TV) (o : List (Nat × TO)) : Option (List Int × List (Int × Int × Unit)) := match l, o with | [], [(9000, .row (.int .i64) x0), (9001, .rcd [.dv (.sl (.pair (.int .i64) (.pair (.int .i64) (.unit)))) x1])] => some (x0, x1) | _, _ => none
noncomputable def K79c61_0 (a86c61 : Int → Int → (List Int) → (List (Int × Int × Unit)) → Option (List Int × List (Int × Int × Unit))) (a87c61 : Int → Int → Int → (List Int) → (List (Int × Int × Unit)) → Option (List Int × List (Int × Int × Unit))) (N : Nat) : Kont (List Int × List (Int × Int × Unit)) := kont (E79c61 a86c61 a87c61) lv79c61 N c79c61 [1, 1, 0, 0] (fin TI en79c61 (resOf Try.f79) dec79c61)
noncomputable def R79c61_0 (a86c61 : Int → Int → (List Int) → (List (Int × Int × Unit)) → Option (List Int × List (Int × Int × Unit))) (a87c61 : Int → Int → Int → (List Int) → (List (Int × Int × Unit)) → Option (List Int × List (Int × Int × Unit))) (N : Nat) (m : Nat) : TS → Option (List Int × List (Int × Int × Unit)) := loopK (den (E79c61 a86c61 a87c61) lv79c61 N (sub c79c61 [1, 1, 0, 0, 0])) (TS.norm nm79c61_0) (K79c61_0 a86c61 a87c61 N) m
noncomputable def K79c61_1 (a86c61 : Int → Int → (List Int) → (List (Int × Int × Unit)) → Option (List Int × List (Int × Int × Unit))) (a87c61 : Int → Int → Int → (List Int) → (List (Int × Int × Unit)) → Option (List Int × List (Int × Int × Unit))) (N : Nat) : Kont (List Int × List (Int × Int × Unit)) := kont (E79c61 a86c61 a87c61) lv79c61 N c79c61 [1, 1, 1, 1, 0] (fin TI en79c61 (resOf Try.f79) dec79c61)
noncomputable def R79c61_1 (a86c61 : Int → Int → (List Int) → (List (Int × Int × Unit)) → Option (List Int × List (Int × Int × Unit))) (a87c61 : Int → Int → Int → (List Int) → (List (Int × Int × Unit)) → Option (List Int × List (Int × Int × Unit))) (N : Nat) (m : Nat) : TS → Option (List Int × List (Int × Int × Unit)) := loopK (den (E79c61 a86c61 a87c61) lv79c61 N (sub c79c61 [1, 1, 1, 1, 0, 0])) (TS.norm nm79c61_1) (K79c61_1 a86c61 a87c61 N) m
noncomputable def K79c61_2 (a86c61 : Int → Int → (List Int) → (List (Int × Int × Unit)) → Option (List Int × List (Int × Int × Unit))) (a87c61 : Int → Int → Int → (List Int) → (List (Int × Int × Unit)) → Option (List Int × List (Int × Int × Unit))) (N : Nat) (T79c61_1 : TS → Option (List Int × List (Int × Int × Unit))) : Kont (List Int × List (Int × Int × Unit)) := kont (E79c61 a86c61 a87c61) lv79c61 N (sub c79c61 [1, 1, 1, 1, 0, 0]) [1, 0, 1, 0, 0] (kloop (TS.norm nm79c61_1) (K79c61_1 a86c61 a87c61 N) T79c61_1)
noncomputable def R79c61_2 (a86c61 : Int → Int → (List Int) → (List (Int × Int × Unit)) → Option (List Int × List (Int × Int × Unit))) (a87c61 : Int → Int → Int → (List Int) → (List (Int × Int × Unit)) → Option (List Int × List (Int × Int × Unit))) (N : Nat) (T79c61_1 : TS → Option (List Int × List (Int × Int × Unit))) (m : Nat) : TS → Option (List Int × List (Int × Int × Unit)) := loopK (den (E79c61 a86c61 a87c61) lv79c61 N (sub c79c61 [1, 1, 1, 1, 0, 0, 1, 0, 1, 0, 0, 0])) (TS.norm nm79c61_2) (K79c61_2 a86c61 a87c61 N T79c61_1) m
def Sl79c61c (n1 : Int) (blockSize6_b : Int) (a7_c : Int) (b8_c : Int) (o9000_c : List Int) (o9001_cf0 : List (Int × Int × Unit)) : TS := ⟨slots 63 [(0, .row 9000), (1, .dv (.int .i64) n1), (2, .fn 61 0 1 fun i => ([.ptr 9001 0 [0]] : List TV).getD i .any), (6, .dv (.int .i64) blockSize6_b), (7, .dv (.int .i64) a7_c), (8, .dv (.int .i64) b8_c)], [(9000, .row (.int .i64) o9000_c), (9001, .rcd [.dv (.sl (.pair (.int .i64) (.pair (.int .i64) (.unit)))) o9001_cf0])]⟩
def Sl79c61b (n1 : Int) (blockSize6_b : Int) (o9000_b : List Int) (o9001_bf0 : List (Int × Int × Unit)) : TS := ⟨slots 63 [(0, .row 9000), (1, .dv (.int .i64) n1), (2, .fn 61 0 1 fun i => ([.ptr 9001 0 [0]] : List TV).getD i .any), (6, .dv (.int .i64) blockSize6_b)], [(9000, .row (.int .i64) o9000_b), (9001, .rcd [.dv (.sl (.pair (.int .i64) (.pair (.int .i64) (.unit)))) o9001_bf0])]⟩
def Sl79c61a (n1 : Int) (a7_a : Int) (b8_a : Int) (o9000_a : List Int) (o9001_af0 : List (Int × Int × Unit)) : TS := ⟨slots 63 [(0, .row 9000), (1, .dv (.int .i64) n1), (2, .fn 61 0 1 fun i => ([.ptr 9001 0 [0]] : List TV).getD i .any), (6, .dv (.int .i64) (20 : Int)), (7, .dv (.int .i64) a7_a), (8, .dv (.int .i64) b8_a)], [(9000, .row (.int .i64) o9000_a), (9001, .rcd [.dv (.sl (.pair (.int .i64) (.pair (.int .i64) (.unit)))) o9001_af0])]⟩
def l79c61c (a86c61 : Int → Int → (List Int) → (List (Int × Int × Unit)) → Option (List Int × List (Int × Int × Unit))) (a87c61 : Int → Int → Int → (List Int) → (List (Int × Int × Unit)) → Option (List Int × List (Int × Int × Unit))) (N : Nat) (n1 : Int) (blockSize6_b : Int) (rec_l79c61b : Int → (List Int) → (List (Int × Int × Unit)) → Option (List Int × List (Int × Int × Unit))) : Nat → Int → Int → (List Int) → (List (Int × Int × Unit)) → Option (List Int × List (Int × Int × Unit))
  | 0, _, _, _, _ => none
  | n + 1, a7_c, b8_c, o9000_c, o9001_cf0 => cond (decide (b8_c ≤ n1)) ((a87c61 a7_c (w64 (a7_c + blockSize6_b)) b8_c o9000_c o9001_cf0).bind fun r3 =>
      (l79c61c a86c61 a87c61 N n1 blockSize6_b rec_l79c61b n b8_c (w64 (b8_c + (w64 ((2 : Int) * blockSize6_b)))) r3.1 r3.2))
      (cond (decide ((w64 (a7_c + blockSize6_b)) < n1)) ((a87c61 a7_c (w64 (a7_c + blockSize6_b)) n1 o9000_c o9001_cf0).bind fun r4 =>
      (rec_l79c61b (w64 (blockSize6_b * (2 : Int))) r4.1 r4.2))
      ((rec_l79c61b (w64 (blockSize6_b * (2 : Int))) o9000_c o9001_cf0)))
theorem wl79c61c (a86c61 : Int → Int → (List Int) → (List (Int × Int × Unit)) → Option (List Int × List (Int × Int × Unit))) (a87c61 : Int → Int → Int → (List Int) → (List (Int × Int × Unit)) → Option (List Int × List (Int × Int × Unit))) (N : Nat) (n1 : Int) (blockSize6_b : Int) (T79c61_1 : TS → Option (List Int × List (Int × Int × Unit))) (m : Nat) (a7_c : Int) (b8_c : Int) (o9000_c : List Int) (o9001_cf0 : List (Int × Int × Unit)) : R79c61_2 a86c61 a87c61 N T79c61_1 (m + 1) (Sl79c61c n1 blockSize6_b a7_c b8_c o9000_c o9001_cf0) = cond (decide (b8_c ≤ n1)) ((a87c61 a7_c (w64 (a7_c + blockSize6_b)) b8_c o9000_c o9001_cf0).bind fun r3 =>
      (R79c61_2 a86c61 a87c61 N T79c61_1 m (Sl79c61c n1 blockSize6_b b8_c (w64 (b8_c + (w64 ((2 : Int) * blockSize6_b)))) r3.1 r3.2)))
      (cond (decide ((w64 (a7_c + blockSize6_b)) < n1)) ((a87c61 a7_c (w64 (a7_c + blockSize6_b)) n1 o9000_c o9001_cf0).bind fun r4 =>
      (T79c61_1 (Sl79c61b n1 (w64 (blockSize6_b * (2 : Int))) r4.1 r4.2)))
      ((T79c61_1 (Sl79c61b n1 (w64 (blockSize6_b * (2 : Int))) o9000_c o9001_cf0)))) := by kernel_rfl
theorem ql79c61c (a86c61 : Int → Int → (List Int) → (List (Int × Int × Unit)) → Option (List Int × List (Int × Int × Unit))) (a87c61 : Int → Int → Int → (List Int) → (List (Int × Int × Unit)) → Option (List Int × List (Int × Int × Unit))) (N : Nat) (n1 : Int) (blockSize6_b : Int) (T79c61_1 : TS → Option (List Int × List (Int × Int × Unit))) : ∀ (m : Nat) (a7_c : Int) (b8_c : Int) (o9000_c : List Int) (o9001_cf0 : List (Int × Int × Unit)), R79c61_2 a86c61 a87c61 N T79c61_1 m (Sl79c61c n1 blockSize6_b a7_c b8_c o9000_c o9001_cf0) = l79c61c a86c61 a87c61 N n1 blockSize6_b (fun y0 y1 y2 => T79c61_1 (Sl79c61b n1 y0 y1 y2)) m a7_c b8_c o9000_c o9001_cf0
        | 0, _, _, _, _ => rfl
        | m + 1, a7_c, b8_c, o9000_c, o9001_cf0 => by rw [wl79c61c]; simp only [l79c61c, ql79c61c a86c61 a87c61 N n1 blockSize6_b T79c61_1 m]
def l79c61b (a86c61 : Int → Int → (List Int) → (List (Int × Int × Unit)) → Option (List Int × List (Int × Int × Unit))) (a87c61 : Int → Int → Int → (List Int) → (List (Int × Int × Unit)) → Option (List Int × List (Int × Int × Unit))) (N : Nat) (n1 : Int) : Nat → Int → (List Int) → (List (Int × Int × Unit)) → Option (List Int × List (Int × Int × Unit))
  | 0, _, _, _ => none
  | n + 1, blockSize6_b, o9000_b, o9001_bf0 => cond (decide (blockSize6_b < n1)) ((l79c61c a86c61 a87c61 N n1 blockSize6_b (fun y0 y1 y2 => (l79c61b a86c61 a87c61 N n1 n y0 y1 y2)) N (0 : Int) (w64 ((2 : Int) * blockSize6_b)) o9000_b o9001_bf0))
      (some (o9000_b, o9001_bf0))
theorem wl79c61b (a86c61 : Int → Int → (List Int) → (List (Int × Int × Unit)) → Option (List Int × List (Int × Int × Unit))) (a87c61 : Int → Int → Int → (List Int) → (List (Int × Int × Unit)) → Option (List Int × List (Int × Int × Unit))) (N : Nat) (n1 : Int) (m : Nat) (blockSize6_b : Int) (o9000_b : List Int) (o9001_bf0 : List (Int × Int × Unit)) : R79c61_1 a86c61 a87c61 N (m + 1) (Sl79c61b n1 blockSize6_b o9000_b o9001_bf0) = cond (decide (blockSize6_b < n1)) ((R79c61_2 a86c61 a87c61 N (R79c61_1 a86c61 a87c61 N m) N (Sl79c61c n1 blockSize6_b (0 : Int) (w64 ((2 : Int) * blockSize6_b)) o9000_b o9001_bf0)))
      (some (o9000_b, o9001_bf0)) := by kernel_rfl
theorem ql79c61b (a86c61 : Int → Int → (List Int) → (List (Int × Int × Unit)) → Option (List Int × List (Int × Int × Unit))) (a87c61 : Int → Int → Int → (List Int) → (List (Int × Int × Unit)) → Option (List Int × List (Int × Int × Unit))) (N : Nat) (n1 : Int) : ∀ (m : Nat) (blockSize6_b : Int) (o9000_b : List Int) (o9001_bf0 : List (Int × Int × Unit)), R79c61_1 a86c61 a87c61 N m (Sl79c61b n1 blockSize6_b o9000_b o9001_bf0) = l79c61b a86c61 a87c61 N n1 m blockSize6_b o9000_b o9001_bf0
        | 0, _, _, _ => rfl
        | m + 1, blockSize6_b, o9000_b, o9001_bf0 => by rw [wl79c61b]; simp only [l79c61b, ql79c61c, ql79c61b a86c61 a87c61 N n1 m]
def l79c61a (a86c61 : Int → Int → (List Int) → (List (Int × Int × Unit)) → Option (List Int × List (Int × Int × Unit))) (a87c61 : Int → Int → Int → (List Int) → (List (Int × Int × Unit)) → Option (List Int × List (Int × Int × Unit))) (N : Nat) (n1 : Int) : Nat → Int → Int → (List Int) → (List (Int × Int × Unit)) → Option (List Int × List (Int × Int × Unit))
  | 0, _, _, _, _ => none
  | n + 1, a7_a, b8_a, o9000_a, o9001_af0 => cond (decide (b8_a ≤ n1)) ((a86c61 a7_a b8_a o9000_a o9001_af0).bind fun r1 =>
      (l79c61a a86c61 a87c61 N n1 n b8_a (w64 (b8_a + (20 : Int))) r1.1 r1.2))
      ((a86c61 a7_a n1 o9000_a o9001_af0).bind fun r2 =>
      (l79c61b a86c61 a87c61 N n1 N (20 : Int) r2.1 r2.2))
theorem wl79c61a (a86c61 : Int → Int → (List Int) → (List (Int × Int × Unit)) → Option (List Int × List (Int × Int × Unit))) (a87c61 : Int → Int → Int → (List Int) → (List (Int × Int × Unit)) → Option (List Int × List (Int × Int × Unit))) (N : Nat) (n1 : Int) (m : Nat) (a7_a : Int) (b8_a : Int) (o9000_a : List Int) (o9001_af0 : List (Int × Int × Unit)) : R79c61_0 a86c61 a87c61 N (m + 1) (Sl79c61a n1 a7_a b8_a o9000_a o9001_af0) = cond (decide (b8_a ≤ n1)) ((a86c61 a7_a b8_a o9000_a o9001_af0).bind fun r1 =>
      (R79c61_0 a86c61 a87c61 N m (Sl79c61a n1 b8_a (w64 (b8_a + (20 : Int))) r1.1 r1.2)))
      ((a86c61 a7_a n1 o9000_a o9001_af0).bind fun r2 =>
      (R79c61_1 a86c61 a87c61 N N (Sl79c61b n1 (20 : Int) r2.1 r2.2))) := by kernel_rfl
theorem ql79c61a (a86c61 : Int → Int → (List Int) → (List (Int × Int × Unit)) → Option (List Int × List (Int × Int × Unit))) (a87c61 : Int → Int → Int → (List Int) → (List (Int × Int × Unit)) → Option (List Int × List (Int × Int × Unit))) (N : Nat) (n1 : Int) : ∀ (m : Nat) (a7_a : Int) (b8_a : Int) (o9000_a : List Int) (o9001_af0 : List (Int × Int × Unit)), R79c61_0 a86c61 a87c61 N m (Sl79c61a n1 a7_a b8_a o9000_a o9001_af0) = l79c61a a86c61 a87c61 N n1 m a7_a b8_a o9000_a o9001_af0
        | 0, _, _, _, _ => rfl
        | m + 1, a7_a, b8_a, o9000_a, o9001_af0 => by rw [wl79c61a]; simp only [l79c61a, ql79c61b, ql79c61a a86c61 a87c61 N n1 m]
def m79c61 (a86c61 : Int → Int → (List Int) → (List (Int × Int × Unit)) → Option (List Int × List (Int × Int × Unit))) (a87c61 : Int → Int → Int → (List Int) → (List (Int × Int × Unit)) → Option (List Int × List (Int × Int × Unit))) (N : Nat) (n1 : Int) (p1 : List Int) (p2 : List (Int × Int × Unit)) : Option (List Int × List (Int × Int × Unit)) :=
      (l79c61a a86c61 a87c61 N n1 N (0 : Int) (20 : Int) p1 p2)
theorem wm79c61 (a86c61 : Int → Int → (List Int) → (List (Int × Int × Unit)) → Option (List Int × List (Int × Int × Unit))) (a87c61 : Int → Int → Int → (List Int) → (List (Int × Int × Unit)) → Option (List Int × List (Int × Int × Unit))) (N : Nat) (n1 : Int) (p1 : List Int) (p2 : List (Int × Int × Unit)) : callF (E79c61 a86c61 a87c61) lv79c61 N en79c61 c79c61 (resOf Try.f79) 60 [.row 9000, .dv (.int .i64) n1, .fn 61 0 1 fun i => ([.ptr 9001 0 [0]] : List TV).getD i .any] [(9000, .row (.int .i64) p1), (9001, .rcd [.dv (.sl (.pair (.int .i64) (.pair (.int .i64) (.unit)))) p2])] dec79c61 = (R79c61_0 a86c61 a87c61 N N (Sl79c61a n1 (0 : Int) (20 : Int) p1 p2)) := by kernel_rfl
theorem k79c61 (a86c61 : Int → Int → (List Int) → (List (Int × Int × Unit)) → Option (List Int × List (Int × Int × Unit))) (a87c61 : Int → Int → Int → (List Int) → (List (Int × Int × Unit)) → Option (List Int × List (Int × Int × Unit))) (N : Nat) (n1 : Int) (p1 : List Int) (p2 : List (Int × Int × Unit)) : callF (E79c61 a86c61 a87c61) lv79c61 N en79c61 c79c61 (resOf Try.f79) 60 [.row 9000, .dv (.int .i64) n1, .fn 61 0 1 fun i => ([.ptr 9001 0 [0]] : List TV).getD i .any] [(9000, .row (.int .i64) p1), (9001, .rcd [.dv (.sl (.pair (.int .i64) (.pair (.int .i64) (.unit)))) p2])] dec79c61 = m79c61 a86c61 a87c61 N n1 p1 p2 := by rw [wm79c61]; simp only [m79c61, ql79c61a]
theorem ok79c61 (a86c61 : Int → Int → (List Int) → (List (Int × Int × Unit)) → Option (List Int × List (Int × Int × Unit))) (a87c61 : Int → Int → Int → (List Int) → (List (Int × Int × Unit)) → Option (List Int × List (Int × Int × Unit))) (h86c61 : FnOk Try.prog 86 (F86c61 a86c61)) (h87c61 : FnOk Try.prog 87 (F87c61 a87c61)) (a : Int → (List Int) → (List (Int × Int × Unit)) → Option (List Int × List (Int × Int × Unit))) (h : ∀ n1 p1 p2 r, a n1 p1 p2 = some r → (∃ N, m79c61 a86c61 a87c61 N n1 p1 p2 = some r)) : FnOk Try.prog 79 (F79c61 a) := by
  intro args Of x hx
  simp only [F79c61] at hx
  split at hx
  · rename_i n1 f_0 p1 p2 heqc
    have hc0 := congrArg (fun c : List (List TV) => c.getD 0 []) heqc
    obtain ⟨N, hN⟩ := h _ _ _ _ hx
    refine HSpec.etaL (args := [.row 9000, .dv (.int .i64) n1, .fn 61 0 1 fun i => ([.ptr 9001 0 [0]] : List TV).getD i .any]) (O := [(9000, .row (.int .i64) p1), (9001, .rcd [.dv (.sl (.pair (.int .i64) (.pair (.int .i64) (.unit)))) p2])]) ⟨TV.sim_refl _, TV.sim_refl _, TV.sim_fn hc0, trivial⟩ ⟨rfl, TO.sim_refl _, rfl, TO.sim_refl _, trivial⟩ (lifted (L := [(86, F86c61 a86c61), (87, F87c61 a87c61)]) (rc := nrc) (fz := nfz) (fn := Try.f79) (by kernel_rfl) (by kernel_rfl) (by kernel_rfl) (by kernel_rfl) rfl ?_ ((k79c61 a86c61 a87c61 N _ _ _).trans hN) ?_)
    · intro p hp; simp only [List.mem_cons, List.not_mem_nil, or_false] at hp; rcases hp with rfl | rfl
      · exact h86c61
      · exact h87c61
    · intro l o hd
      simp only [dec79c61] at hd
      split at hd
      · obtain rfl := Option.some.inj hd; exact ⟨rfl, rfl⟩
      · cases hd
  · cases hx
def E60c61 (a79c61 : Int → (List Int) → (List (Int × Int × Unit)) → Option (List Int × List (Int × Int × Unit))) : Env := mkE TI TY [(79, F79c61 a79c61)] nrc nfz
noncomputable def c60c61 : Code := bodyOf Try.f60
def lv60c61 : Nat → Option Norm := norms []
def en60c61 : End := ⟨[], ⟨[], [9000, 9001], [], []⟩⟩
def dec60c61 (l : List TV) (o : List (Nat × TO)) : Option (List Int × List (Int × Int × Unit)) := match l, o with | [], [(9000, .row (.int .i64) x0), (9001, .rcd [.dv (.sl (.pair (.int .i64) (.pair (.int .i64) (.unit)))) x1])] => some (x0, x1) | _, _ => none
def m60c61 (a79c61 : Int → (List Int) → (List (Int × Int × Unit)) → Option (List Int × List (Int × Int × Unit))) (N : Nat) (p0 : List Int) (p1 : List (Int × Int × Unit)) : Option (List Int × List (Int × Int × Unit)) :=
      (a79c61 (p0.length : Int) p0 p1).bind fun r1 =>
      some (r1.1, r1.2)
theorem k60c61 (a79c61 : Int → (List Int) → (List (Int × Int × Unit)) → Option (List Int × List (Int × Int × Unit))) (N : Nat) (p0 : List Int) (p1 : List (Int × Int × Unit)) : callF (E60c61 a79c61) lv60c61 N en60c61 c60c61 (resOf Try.f60) 7 [.row 9000, .fn 61 0 1 fun i => ([.ptr 9001 0 [0]] : List TV).getD i .any] [(9000, .row (.int .i64) p0), (9001, .rcd [.dv (.sl (.pair (.int .i64) (.pair (.int .i64) (.unit)))) p1])] dec60c61 = m60c61 a79c61 N p0 p1 := by kernel_rfl
theorem ok60c61 (a79c61 : Int → (List Int) → (List (Int × Int × Unit)) → Option (List Int × List (Int × Int × Unit))) (h79c61 : FnOk Try.prog 79 (F79c61 a79c61)) (a : (List Int) → (List (Int × Int × Unit)) → Option (List Int × List (Int × Int × Unit))) (h : ∀ p0 p1 r, a p0 p1 = some r → (∃ N, m60c61 a79c61 N p0 p1 = some r)) : FnOk Try.prog 60 (F60c61 a) := by
  intro args Of x hx
  simp only [F60c61] at hx
  split at hx
  · rename_i f_0 p0 p1 heqc
    have hc0 := congrArg (fun c : List (List TV) => c.getD 0 []) heqc
    obtain ⟨N, hN⟩ := h _ _ _ hx
    refine HSpec.etaL (args := [.row 9000, .fn 61 0 1 fun i => ([.ptr 9001 0 [0]] : List TV).getD i .any]) (O := [(9000, .row (.int .i64) p0), (9001, .rcd [.dv (.sl (.pair (.int .i64) (.pair (.int .i64) (.unit)))) p1])]) ⟨TV.sim_refl _, TV.sim_fn hc0, trivial⟩ ⟨rfl, TO.sim_refl _, rfl, TO.sim_refl _, trivial⟩ (lifted (L := [(79, F79c61 a79c61)]) (rc := nrc) (fz := nfz) (fn := Try.f60) (by kernel_rfl) (by kernel_rfl) (by kernel_rfl) (by kernel_rfl) rfl ?_ ((k60c61 a79c61 N _ _).trans hN) ?_)
    · intro p hp; simp only [List.mem_cons, List.not_mem_nil, or_false] at hp; rcases hp with rfl; exact h79c61
    · intro l o hd
      simp only [dec60c61] at hd
      split at hd
      · obtain rfl := Option.some.inj hd; exact ⟨rfl, rfl⟩
      · cases hd
  · cases hx
def E25 (a20 : (List (Int × Int × Unit)) → Option (List Int × Int)) (a60c61 : (List Int) → (List (Int × Int × Unit)) → Option (List Int × List (Int × Int × Unit))) : Env := mkE TI TY [(20, F20 a20), (60, F60c61 a60c61)] nrc nfz
noncomputable def c25 : Code := bodyOf Try.f25
def nm25_0 : Norm := ⟨[6, 25, 26, 27], [24, 1131500], [], []⟩
def nm25_1 : Norm := ⟨[6, 9, 39, 40], [24], [], []⟩
def lv25 : Nat → Option Norm := norms [(7, nm25_0), (13, nm25_1)]
def en25 : End := ⟨[(56, .sl (.int .i64))], ⟨[56, 57], [], [], []⟩⟩
def dec25 (l : List TV) (o : List (Nat × TO)) : Option (List Int × Int) := match l, o with | [.dv (.sl (.int .i64)) x0, .dv (.int .i64) x1], [] => some (x0, x1) | _, _ => none
noncomputable def K25_0 (a20 : (List (Int × Int × Unit)) → Option (List Int × Int)) (a60c61 : (List Int) → (List (Int × Int × Unit)) → Option (List Int × List (Int × Int × Unit))) (N : Nat) : Kont (List Int × Int) := kont (E25 a20 a60c61) lv25 N c25 [1, 1, 1, 1, 1, 0, 1, 0] (fin TI en25 (resOf Try.f25) dec25)
noncomputable def R25_0 (a20 : (List (Int × Int × Unit)) → Option (List Int × Int)) (a60c61 : (List Int) → (List (Int × Int × Unit)) → Option (List Int × List (Int × Int × Unit))) (N : Nat) (m : Nat) : TS → Option (List Int × Int) := loopK (den (E25 a20 a60c61) lv25 N (sub c25 [1, 1, 1, 1, 1, 0, 1, 0, 0])) (TS.norm nm25_0) (K25_0 a20 a60c61 N) m
noncomputable def K25_1 (a20 : (List (Int × Int × Unit)) → Option (List Int × Int)) (a60c61 : (List Int) → (List (Int × Int × Unit)) → Option (List Int × List (Int × Int × Unit))) (N : Nat) : Kont (List Int × Int) := kont (E25 a20 a60c61) lv25 N c25 [1, 1, 1, 1, 1, 1, 1, 0, 1, 0] (fin TI en25 (resOf Try.f25) dec25)
noncomputable def R25_1 (a20 : (List (Int × Int × Unit)) → Option (List Int × Int)) (a60c61 : (List Int) → (List (Int × Int × Unit)) → Option (List Int × List (Int × Int × Unit))) (N : Nat) (m : Nat) : TS → Option (List Int × Int) := loopK (den (E25 a20 a60c61) lv25 N (sub c25 [1, 1, 1, 1, 1, 1, 1, 0, 1, 0, 0])) (TS.norm nm25_1) (K25_1 a20 a60c61 N) m
def Sl25b (o24_a : List Int) (day9_b : Int) (t40_b : Int) (o24_b : List Int) : TS := ⟨slots 56 [(6, .row 24), (9, .dv (.int .i64) day9_b), (39, .dv (.int .i64) (o24_a.length : Int)), (40, .dv (.int .i64) t40_b)], [(24, .row (.int .i64) o24_b)]⟩
def Sl25a (r2 : List Int × List (Int × Int × Unit)) (t27_a : Int) (o24_a : List Int) : TS := ⟨slots 56 [(6, .row 24), (25, .row 1131500), (26, .dv (.int .i64) (r2.1.length : Int)), (27, .dv (.int .i64) t27_a)], [(24, .row (.int .i64) o24_a), (1131500, .row (.int .i64) r2.1)]⟩
def l25b (a20 : (List (Int × Int × Unit)) → Option (List Int × Int)) (a60c61 : (List Int) → (List (Int × Int × Unit)) → Option (List Int × List (Int × Int × Unit))) (N : Nat) (o24_a : List Int) : Nat → Int → Int → (List Int) → Option (List Int × Int)
  | 0, _, _, _ => none
  | n + 1, day9_b, t40_b, o24_b => cond (decide (t40_b < (o24_a.length : Int))) (chk (decide (0 ≤ t40_b ∧ t40_b < (o24_b.length : Int))) (cond ((o24_b.getD t40_b.toNat (0 : Int)) == (0 : Int)) (chk (decide (0 ≤ t40_b ∧ t40_b < (o24_b.length : Int))) ((l25b a20 a60c61 N o24_a n (w64 (day9_b + (1 : Int))) (w64 (t40_b + (1 : Int))) (o24_b.set t40_b.toNat (w64 (day9_b + (1 : Int)))))))
      ((l25b a20 a60c61 N o24_a n day9_b (w64 (t40_b + (1 : Int))) o24_b))))
      (some (o24_b, (0 : Int)))
theorem wl25b (a20 : (List (Int × Int × Unit)) → Option (List Int × Int)) (a60c61 : (List Int) → (List (Int × Int × Unit)) → Option (List Int × List (Int × Int × Unit))) (N : Nat) (o24_a : List Int) (m : Nat) (day9_b : Int) (t40_b : Int) (o24_b : List Int) : R25_1 a20 a60c61 N (m + 1) (Sl25b o24_a day9_b t40_b o24_b) = cond (decide (t40_b < (o24_a.length : Int))) (chk (decide (0 ≤ t40_b ∧ t40_b < (o24_b.length : Int))) (cond ((o24_b.getD t40_b.toNat (0 : Int)) == (0 : Int)) (chk (decide (0 ≤ t40_b ∧ t40_b < (o24_b.length : Int))) ((R25_1 a20 a60c61 N m (Sl25b o24_a (w64 (day9_b + (1 : Int))) (w64 (t40_b + (1 : Int))) (o24_b.set t40_b.toNat (w64 (day9_b + (1 : Int))))))))
      ((R25_1 a20 a60c61 N m (Sl25b o24_a day9_b (w64 (t40_b + (1 : Int))) o24_b)))))
      (some (o24_b, (0 : Int))) := by kernel_rfl
theorem ql25b (a20 : (List (Int × Int × Unit)) → Option (List Int × Int)) (a60c61 : (List Int) → (List (Int × Int × Unit)) → Option (List Int × List (Int × Int × Unit))) (N : Nat) (o24_a : List Int) : ∀ (m : Nat) (day9_b : Int) (t40_b : Int) (o24_b : List Int), R25_1 a20 a60c61 N m (Sl25b o24_a day9_b t40_b o24_b) = l25b a20 a60c61 N o24_a m day9_b t40_b o24_b
        | 0, _, _, _ => rfl
        | m + 1, day9_b, t40_b, o24_b => by rw [wl25b]; simp only [l25b, ql25b a20 a60c61 N o24_a m]
def l25a (a20 : (List (Int × Int × Unit)) → Option (List Int × Int)) (a60c61 : (List Int) → (List (Int × Int × Unit)) → Option (List Int × List (Int × Int × Unit))) (N : Nat) (r2 : List Int × List (Int × Int × Unit)) : Nat → Int → (List Int) → Option (List Int × Int)
  | 0, _, _ => none
  | n + 1, t27_a, o24_a => cond (decide (t27_a < (r2.1.length : Int))) (chk (decide (0 ≤ t27_a ∧ t27_a < (r2.1.length : Int))) (chk (decide (0 ≤ r2.1.getD t27_a.toNat (0 : Int) ∧ r2.1.getD t27_a.toNat (0 : Int) < (o24_a.length : Int))) ((l25a a20 a60c61 N r2 n (w64 (t27_a + (1 : Int))) (o24_a.set ((r2.1.getD t27_a.toNat (0 : Int)).toNat) (w64 (t27_a + (1 : Int))))))))
      ((l25b a20 a60c61 N o24_a N (30 : Int) (0 : Int) o24_a))
theorem wl25a (a20 : (List (Int × Int × Unit)) → Option (List Int × Int)) (a60c61 : (List Int) → (List (Int × Int × Unit)) → Option (List Int × List (Int × Int × Unit))) (N : Nat) (r2 : List Int × List (Int × Int × Unit)) (m : Nat) (t27_a : Int) (o24_a : List Int) : R25_0 a20 a60c61 N (m + 1) (Sl25a r2 t27_a o24_a) = cond (decide (t27_a < (r2.1.length : Int))) (chk (decide (0 ≤ t27_a ∧ t27_a < (r2.1.length : Int))) (chk (decide (0 ≤ r2.1.getD t27_a.toNat (0 : Int) ∧ r2.1.getD t27_a.toNat (0 : Int) < (o24_a.length : Int))) ((R25_0 a20 a60c61 N m (Sl25a r2 (w64 (t27_a + (1 : Int))) (o24_a.set ((r2.1.getD t27_a.toNat (0 : Int)).toNat) (w64 (t27_a + (1 : Int)))))))))
      ((R25_1 a20 a60c61 N N (Sl25b o24_a (30 : Int) (0 : Int) o24_a))) := by kernel_rfl
theorem ql25a (a20 : (List (Int × Int × Unit)) → Option (List Int × Int)) (a60c61 : (List Int) → (List (Int × Int × Unit)) → Option (List Int × List (Int × Int × Unit))) (N : Nat) (r2 : List Int × List (Int × Int × Unit)) : ∀ (m : Nat) (t27_a : Int) (o24_a : List Int), R25_0 a20 a60c61 N m (Sl25a r2 t27_a o24_a) = l25a a20 a60c61 N r2 m t27_a o24_a
        | 0, _, _ => rfl
        | m + 1, t27_a, o24_a => by rw [wl25a]; simp only [l25a, ql25b, ql25a a20 a60c61 N r2 m]
def m25 (a20 : (List (Int × Int × Unit)) → Option (List Int × Int)) (a60c61 : (List Int) → (List (Int × Int × Unit)) → Option (List Int × List (Int × Int × Unit))) (N : Nat) (l0 : List (Int × Int × Unit)) : Option (List Int × Int) :=
      (a20 l0).bind fun r1 =>
      cond (r1.2 != (0 : Int)) (some (([] : List Int), r1.2))
      ((a60c61 r1.1 l0).bind fun r2 =>
      chk (mkOk (r2.2.length : Int) (r2.2.length : Int) 8) ((l25a a20 a60c61 N r2 N (0 : Int) (List.replicate ((r2.2.length : Int).toNat) (0 : Int)))))
theorem wm25 (a20 : (List (Int × Int × Unit)) → Option (List Int × Int)) (a60c61 : (List Int) → (List (Int × Int × Unit)) → Option (List Int × List (Int × Int × Unit))) (N : Nat) (l0 : List (Int × Int × Unit)) : callF (E25 a20 a60c61) lv25 N en25 c25 (resOf Try.f25) 55 [.dv (.sl (.pair (.int .i64) (.pair (.int .i64) (.unit)))) l0] [] dec25 = (a20 l0).bind fun r1 =>
      cond (r1.2 != (0 : Int)) (some (([] : List Int), r1.2))
      ((a60c61 r1.1 l0).bind fun r2 =>
      chk (mkOk (r2.2.length : Int) (r2.2.length : Int) 8) ((R25_0 a20 a60c61 N N (Sl25a r2 (0 : Int) (List.replicate ((r2.2.length : Int).toNat) (0 : Int)))))) := by kernel_rfl
theorem k25 (a20 : (List (Int × Int × Unit)) → Option (List Int × Int)) (a60c61 : (List Int) → (List (Int × Int × Unit)) → Option (List Int × List (Int × Int × Unit))) (N : Nat) (l0 : List (Int × Int × Unit)) : callF (E25 a20 a60c61) lv25 N en25 c25 (resOf Try.f25) 55 [.dv (.sl (.pair (.int .i64) (.pair (.int .i64) (.unit)))) l0] [] dec25 = m25 a20 a60c61 N l0 := by rw [wm25]; simp only [m25, ql25a]
theorem ok25 (a20 : (List (Int × Int × Unit)) → Option (List Int × Int)) (a60c61 : (List Int) → (List (Int × Int × Unit)) → Option (List Int × List (Int × Int × Unit))) (h20 : FnOk Try.prog 20 (F20 a20)) (h60c61 : FnOk Try.prog 60 (F60c61 a60c61)) (a : (List (Int × Int × Unit)) → Option (List Int × Int)) (h : ∀ l0 r, a l0 = some r → (∃ N, m25 a20 a60c61 N l0 = some r)) : FnOk Try.prog 25 (F25 a) := by
  intro args Of x hx
  simp only [F25] at hx
  split at hx
  · rename_i l0
    obtain ⟨N, hN⟩ := h _ _ hx
    refine lifted (L := [(20, F20 a20), (60, F60c61 a60c61)]) (rc := nrc) (fz := nfz) (fn := Try.f25) (by kernel_rfl) (by kernel_rfl) (by kernel_rfl) (by kernel_rfl) rfl ?_ ((k25 a20 a60c61 N _).trans hN) ?_
    · intro p hp; simp only [List.mem_cons, List.not_mem_nil, or_false] at hp; rcases hp with rfl | rfl
      · exact h20
      · exact h60c61
    · intro l o hd
      simp only [dec25] at hd
      split at hd
      · obtain rfl := Option.some.inj hd; exact ⟨rfl, rfl⟩
      · cases hd
  · cases hx
def E26 (a23 : (List (Int × Int × Unit)) → Option (Int)) (a49 : Int → Int → Int → Option (Bool)) (a63 : (List Int) → Int → Option (Bool)) : Env := mkE TI TY [(23, F23 a23), (49, F49 a49), (63, F63 a63)] nrc nfz
noncomputable def c26 : Code := bodyOf Try.f26
def nm26_0 : Norm := ⟨[0, 1, 7, 22, 23, 24], [], [], []⟩
def lv26 : Nat → Option Norm := norms [(8, nm26_0)]
def en26 : End := ⟨[], ⟨[56, 57], [], [], []⟩⟩
def dec26 (l : List TV) (o : List (Nat × TO)) : Option (Int × Int) := match l, o with | [.dv (.int .i64) x0, .dv (.int .i64) x1], [] => some (x0, x1) | _, _ => none
noncomputable def K26_0 (a23 : (List (Int × Int × Unit)) → Option (Int)) (a49 : Int → Int → Int → Option (Bool)) (a63 : (List Int) → Int → Option (Bool)) (N : Nat) : Kont (Int × Int) := kont (E26 a23 a49 a63) lv26 N c26 [1, 1, 1, 1, 0, 1, 0] (fin TI en26 (resOf Try.f26) dec26)
noncomputable def R26_0 (a23 : (List (Int × Int × Unit)) → Option (Int)) (a49 : Int → Int → Int → Option (Bool)) (a63 : (List Int) → Int → Option (Bool)) (N : Nat) (m : Nat) : TS → Option (Int × Int) := loopK (den (E26 a23 a49 a63) lv26 N (sub c26 [1, 1, 1, 1, 0, 1, 0, 0])) (TS.norm nm26_0) (K26_0 a23 a49 a63 N) m
def Sl26a (l0 : List (Int × Int × Unit)) (plan1 : List Int) (n7_a : Int) (t24_a : Int) : TS := ⟨slots 56 [(0, .dv (.sl (.pair (.int .i64) (.pair (.int .i64) (.unit)))) l0), (1, .dv (.sl (.int .i64)) plan1), (7, .dv (.int .i64) n7_a), (22, .dv (.sl (.int .i64)) plan1), (23, .dv (.int .i64) (plan1.length : Int)), (24, .dv (.int .i64) t24_a)], []⟩
def l26a (a23 : (List (Int × Int × Unit)) → Option (Int)) (a49 : Int → Int → Int → Option (Bool)) (a63 : (List Int) → Int → Option (Bool)) (N : Nat) (l0 : List (Int × Int × Unit)) (plan1 : List Int) : Nat → Int → Int → Option (Int × Int)
  | 0, _, _ => none
  | n + 1, n7_a, t24_a => cond (decide (t24_a < (plan1.length : Int))) (chk (decide (0 ≤ t24_a ∧ t24_a < (plan1.length : Int))) ((a49 (1 : Int) (plan1.getD t24_a.toNat (0 : Int)) (42 : Int)).bind fun r2 =>
      cond (!r2) (some ((0 : Int), (4 : Int)))
      (chk (decide (0 ≤ t24_a ∧ t24_a ≤ (plan1.length : Int))) ((a63 (plan1.take t24_a.toNat) (plan1.getD t24_a.toNat (0 : Int))).bind fun r3 =>
      cond (r3) (some ((0 : Int), (6 : Int)))
      (chk (decide (0 ≤ t24_a ∧ t24_a < (l0.length : Int))) (cond (decide ((plan1.getD t24_a.toNat (0 : Int)) > ((l0.getD t24_a.toNat ((0 : Int), ((0 : Int), ()))).1))) (chk (decide (0 ≤ t24_a ∧ t24_a < (l0.length : Int))) ((l26a a23 a49 a63 N l0 plan1 n (w64 (n7_a + (((l0.getD t24_a.toNat ((0 : Int), ((0 : Int), ()))).2).1))) (w64 (t24_a + (1 : Int))))))
      ((l26a a23 a49 a63 N l0 plan1 n n7_a (w64 (t24_a + (1 : Int)))))))))))
      (some (n7_a, (0 : Int)))
theorem wl26a (a23 : (List (Int × Int × Unit)) → Option (Int)) (a49 : Int → Int → Int → Option (Bool)) (a63 : (List Int) → Int → Option (Bool)) (N : Nat) (l0 : List (Int × Int × Unit)) (plan1 : List Int) (m : Nat) (n7_a : Int) (t24_a : Int) : R26_0 a23 a49 a63 N (m + 1) (Sl26a l0 plan1 n7_a t24_a) = cond (decide (t24_a < (plan1.length : Int))) (chk (decide (0 ≤ t24_a ∧ t24_a < (plan1.length : Int))) ((a49 (1 : Int) (plan1.getD t24_a.toNat (0 : Int)) (42 : Int)).bind fun r2 =>
      cond (!r2) (some ((0 : Int), (4 : Int)))
      (chk (decide (0 ≤ t24_a ∧ t24_a ≤ (plan1.length : Int))) ((a63 (plan1.take t24_a.toNat) (plan1.getD t24_a.toNat (0 : Int))).bind fun r3 =>
      cond (r3) (some ((0 : Int), (6 : Int)))
      (chk (decide (0 ≤ t24_a ∧ t24_a < (l0.length : Int))) (cond (decide ((plan1.getD t24_a.toNat (0 : Int)) > ((l0.getD t24_a.toNat ((0 : Int), ((0 : Int), ()))).1))) (chk (decide (0 ≤ t24_a ∧ t24_a < (l0.length : Int))) ((R26_0 a23 a49 a63 N m (Sl26a l0 plan1 (w64 (n7_a + (((l0.getD t24_a.toNat ((0 : Int), ((0 : Int), ()))).2).1))) (w64 (t24_a + (1 : Int)))))))
      ((R26_0 a23 a49 a63 N m (Sl26a l0 plan1 n7_a (w64 (t24_a + (1 : Int))))))))))))
      (some (n7_a, (0 : Int))) := by kernel_rfl
theorem ql26a (a23 : (List (Int × Int × Unit)) → Option (Int)) (a49 : Int → Int → Int → Option (Bool)) (a63 : (List Int) → Int → Option (Bool)) (N : Nat) (l0 : List (Int × Int × Unit)) (plan1 : List Int) : ∀ (m : Nat) (n7_a : Int) (t24_a : Int), R26_0 a23 a49 a63 N m (Sl26a l0 plan1 n7_a t24_a) = l26a a23 a49 a63 N l0 plan1 m n7_a t24_a
        | 0, _, _ => rfl
        | m + 1, n7_a, t24_a => by rw [wl26a]; simp only [l26a, ql26a a23 a49 a63 N l0 plan1 m]
def m26 (a23 : (List (Int × Int × Unit)) → Option (Int)) (a49 : Int → Int → Int → Option (Bool)) (a63 : (List Int) → Int → Option (Bool)) (N : Nat) (l0 : List (Int × Int × Unit)) (plan1 : List Int) : Option (Int × Int) :=
      (a23 l0).bind fun r1 =>
      cond (r1 != (0 : Int)) (some ((0 : Int), r1))
      (cond ((plan1.length : Int) != (l0.length : Int)) (some ((0 : Int), (3 : Int)))
      ((l26a a23 a49 a63 N l0 plan1 N (0 : Int) (0 : Int))))
theorem wm26 (a23 : (List (Int × Int × Unit)) → Option (Int)) (a49 : Int → Int → Int → Option (Bool)) (a63 : (List Int) → Int → Option (Bool)) (N : Nat) (l0 : List (Int × Int × Unit)) (plan1 : List Int) : callF (E26 a23 a49 a63) lv26 N en26 c26 (resOf Try.f26) 54 [.dv (.sl (.pair (.int .i64) (.pair (.int .i64) (.unit)))) l0, .dv (.sl (.int .i64)) plan1] [] dec26 = (a23 l0).bind fun r1 =>
      cond (r1 != (0 : Int)) (some ((0 : Int), r1))
      (cond ((plan1.length : Int) != (l0.length : Int)) (some ((0 : Int), (3 : Int)))
      ((R26_0 a23 a49 a63 N N (Sl26a l0 plan1 (0 : Int) (0 : Int))))) := by kernel_rfl
theorem k26 (a23 : (List (Int × Int × Unit)) → Option (Int)) (a49 : Int → Int → Int → Option (Bool)) (a63 : (List Int) → Int → Option (Bool)) (N : Nat) (l0 : List (Int × Int × Unit)) (plan1 : List Int) : callF (E26 a23 a49 a63) lv26 N en26 c26 (resOf Try.f26) 54 [.dv (.sl (.pair (.int .i64) (.pair (.int .i64) (.unit)))) l0, .dv (.sl (.int .i64)) plan1] [] dec26 = m26 a23 a49 a63 N l0 plan1 := by rw [wm26]; simp only [m26, ql26a]
theorem ok26 (a23 : (List (Int × Int × Unit)) → Option (Int)) (a49 : Int → Int → Int → Option (Bool)) (a63 : (List Int) → Int → Option (Bool)) (h23 : FnOk Try.prog 23 (F23 a23)) (h49 : FnOk Try.prog 49 (F49 a49)) (h63 : FnOk Try.prog 63 (F63 a63)) (a : (List (Int × Int × Unit)) → (List Int) → Option (Int × Int)) (h : ∀ l0 plan1 r, a l0 plan1 = some r → (∃ N, m26 a23 a49 a63 N l0 plan1 = some r)) : FnOk Try.prog 26 (F26 a) := by
  intro args Of x hx
  simp only [F26] at hx
  split at hx
  · rename_i l0 plan1
    obtain ⟨N, hN⟩ := h _ _ _ hx
    refine lifted (L := [(23, F23 a23), (49, F49 a49), (63, F63 a63)]) (rc := nrc) (fz := nfz) (fn := Try.f26) (by kernel_rfl) (by kernel_rfl) (by kernel_rfl) (by kernel_rfl) rfl ?_ ((k26 a23 a49 a63 N _ _).trans hN) ?_
    · intro p hp; simp only [List.mem_cons, List.not_mem_nil, or_false] at hp; rcases hp with rfl | rfl | rfl
      · exact h23
      · exact h49
      · exact h63
    · intro l o hd
      simp only [dec26] at hd
      split at hd
      · obtain rfl := Option.some.inj hd; exact ⟨rfl, rfl⟩
      · cases hd
  · cases hx
def E28 (a26 : (List (Int × Int × Unit)) → (List Int) → Option (Int × Int)) (a53 : (List (Int × Int × Unit)) → Option (Int)) : Env := mkE TI TY [(26, F26 a26), (53, F53 a53)] nrc nfz
noncomputable def c28 : Code := bodyOf Try.f28
def lv28 : Nat → Option Norm := norms []
def en28 : End := ⟨[], ⟨[22], [], [], []⟩⟩
def dec28 (l : List TV) (o : List (Nat × TO)) : Option (Int) := match l, o with | [.dv (.int .i64) x0], [] => some (x0) | _, _ => none
def m28 (a26 : (List (Int × Int × Unit)) → (List Int) → Option (Int × Int)) (a53 : (List (Int × Int × Unit)) → Option (Int)) (N : Nat) (l0 : List (Int × Int × Unit)) (plan1 : List Int) : Option (Int) :=
      (a26 l0 plan1).bind fun r1 =>
      cond (r1.2 == (0 : Int)) ((a53 l0).bind fun r2 =>
      cond (decide (r1.1 > r2)) (some (14 : Int))
      (some r1.2))
      (some r1.2)
theorem k28 (a26 : (List (Int × Int × Unit)) → (List Int) → Option (Int × Int)) (a53 : (List (Int × Int × Unit)) → Option (Int)) (N : Nat) (l0 : List (Int × Int × Unit)) (plan1 : List Int) : callF (E28 a26 a53) lv28 N en28 c28 (resOf Try.f28) 20 [.dv (.sl (.pair (.int .i64) (.pair (.int .i64) (.unit)))) l0, .dv (.sl (.int .i64)) plan1] [] dec28 = m28 a26 a53 N l0 plan1 := by kernel_rfl
theorem ok28 (a26 : (List (Int × Int × Unit)) → (List Int) → Option (Int × Int)) (a53 : (List (Int × Int × Unit)) → Option (Int)) (h26 : FnOk Try.prog 26 (F26 a26)) (h53 : FnOk Try.prog 53 (F53 a53)) (a : (List (Int × Int × Unit)) → (List Int) → Option (Int)) (h : ∀ l0 plan1 r, a l0 plan1 = some r → (∃ N, m28 a26 a53 N l0 plan1 = some r)) : FnOk Try.prog 28 (F28 a) := by
  intro args Of x hx
  simp only [F28] at hx
  split at hx
  · rename_i l0 plan1
    obtain ⟨N, hN⟩ := h _ _ _ hx
    refine lifted (L := [(26, F26 a26), (53, F53 a53)]) (rc := nrc) (fz := nfz) (fn := Try.f28) (by kernel_rfl) (by kernel_rfl) (by kernel_rfl) (by kernel_rfl) rfl ?_ ((k28 a26 a53 N _ _).trans hN) ?_
    · intro p hp; simp only [List.mem_cons, List.not_mem_nil, or_false] at hp; rcases hp with rfl | rfl
      · exact h26
      · exact h53
    · intro l o hd
      simp only [dec28] at hd
      split at hd
      · obtain rfl := Option.some.inj hd; exact ⟨rfl, rfl⟩
      · cases hd
  · cases hx
def E88c : Env := mkE TI TY [] nrc (fun i => ([25] : List Nat).contains i)
noncomputable def c88c : Code := bodyOf Try.f88
def lv88c : Nat → Option Norm := norms []
def en88c : End := ⟨[], ⟨[], [], [(.slot 27, 1500, .pair (.int .i64) (.pair (.int .i64) (.unit)))], []⟩⟩
def dec88c (l : List TV) (o : List (Nat × TO)) : Option (List (Int × Int × Unit)) := match l, o with | [.row 1500], [(1500, .row (.pair (.int .i64) (.pair (.int .i64) (.unit))) x0)] => some (x0) | _, _ => none
def m88c (N : Nat) (n1 : Int) : Option (List (Int × Int × Unit)) :=
      cond (decide (n1 < (0 : Int))) (none)
      (cond (decide ((w64 (n1 - (0 : Int))) > (0 : Int))) (chk (decide ((0 : Int) < (w64 (n1 - (0 : Int)))) && mkOk (w64 (n1 - (0 : Int))) (w64 (n1 - (0 : Int))) 16) (chk (decide (0 ≤ (0 : Int) ∧ (0 : Int) ≤ ((List.replicate ((w64 (n1 - (0 : Int))).toNat) ((0 : Int), ((0 : Int), ()))).length : Int))) (some ((List.replicate ((w64 (n1 - (0 : Int))).toNat) ((0 : Int), ((0 : Int), ()))).take 0))))
      (some ([] : List (Int × Int × Unit))))
theorem k88c (N : Nat) (n1 : Int) : callF (E88c) lv88c N en88c c88c (resOf Try.f88) 25 [.nl, .dv (.int .i64) n1] [] dec88c = m88c N n1 := by kernel_rfl
theorem ok88c (a : Int → Option (List (Int × Int × Unit))) (h : ∀ n1 r, a n1 = some r → (∃ N, m88c N n1 = some r)) : FnOk Try.prog 88 (F88c a) := by
  intro args Of x hx
  simp only [F88c] at hx
  split at hx
  · rename_i n1
    obtain ⟨N, hN⟩ := h _ _ hx
    refine lifted (L := []) (rc := nrc) (fz := (fun i => ([25] : List Nat).contains i)) (fn := Try.f88) (by kernel_rfl) (by kernel_rfl) (by kernel_rfl) (by kernel_rfl) rfl ?_ ((k88c N _).trans hN) ?_
    · intro p hp; cases hp
    · intro l o hd
      simp only [dec88c] at hd
      split at hd
      · obtain rfl := Option.some.inj hd; exact ⟨rfl, rfl⟩
      · cases hd
  · cases hx
def E82 (a88c : Int → Option (List (Int × Int × Unit))) : Env := mkE TI TY [(88, F88c a88c)] nrc nfz
noncomputable def c82 : Code := bodyOf Try.f82
def nm82_0 : Norm := ⟨[0, 3, 9, 10, 11], [], [], []⟩
def nm82_1 : Norm := ⟨[25, 26, 27], [], [(.slot 6, 1006, .pair (.int .i64) (.pair (.int .i64) (.unit)))], []⟩
def lv82 : Nat → Option Norm := norms [(3, nm82_0), (11, nm82_1)]
def en82 : End := ⟨[(36, .sl (.pair (.int .i64) (.pair (.int .i64) (.unit))))], ⟨[36], [], [], []⟩⟩
def dec82 (l : List TV) (o : List (Nat × TO)) : Option (List (Int × Int × Unit)) := match l, o with | [.dv (.sl (.pair (.int .i64) (.pair (.int .i64) (.unit)))) x0], [] => some (x0) | _, _ => none
noncomputable def K82_0 (a88c : Int → Option (List (Int × Int × Unit))) (N : Nat) : Kont (List (Int × Int × Unit)) := kont (E82 a88c) lv82 N c82 [1, 1, 0, 1, 0] (fin TI en82 (resOf Try.f82) dec82)
noncomputable def R82_0 (a88c : Int → Option (List (Int × Int × Unit))) (N : Nat) (m : Nat) : TS → Option (List (Int × Int × Unit)) := loopK (den (E82 a88c) lv82 N (sub c82 [1, 1, 0, 1, 0, 0])) (TS.norm nm82_0) (K82_0 a88c N) m
noncomputable def K82_1 (a88c : Int → Option (List (Int × Int × Unit))) (N : Nat) : Kont (List (Int × Int × Unit)) := kont (E82 a88c) lv82 N c82 [1, 1, 1, 1, 0, 1, 0] (fin TI en82 (resOf Try.f82) dec82)
noncomputable def R82_1 (a88c : Int → Option (List (Int × Int × Unit))) (N : Nat) (m : Nat) : TS → Option (List (Int × Int × Unit)) := loopK (den (E82 a88c) lv82 N (sub c82 [1, 1, 1, 1, 0, 1, 0, 0])) (TS.norm nm82_1) (K82_1 a88c N) m
def Sl82b (slices0 : List (List (Int × Int × Unit))) (t27_b : Int) (newslice6_b : List (Int × Int × Unit)) : TS := ⟨slots 36 [(6, .row 1006), (25, .dv (.sl (.sl (.pair (.int .i64) (.pair (.int .i64) (.unit))))) slices0), (26, .dv (.int .i64) (slices0.length : Int)), (27, .dv (.int .i64) t27_b)], [(1006, .row (.pair (.int .i64) (.pair (.int .i64) (.unit))) newslice6_b)]⟩
def Sl82a (slices0 : List (List (Int × Int × Unit))) (size3_a : Int) (t11_a : Int) : TS := ⟨slots 36 [(0, .dv (.sl (.sl (.pair (.int .i64) (.pair (.int .i64) (.unit))))) slices0), (3, .dv (.int .i64) size3_a), (9, .dv (.sl (.sl (.pair (.int .i64) (.pair (.int .i64) (.unit))))) slices0), (10, .dv (.int .i64) (slices0.length : Int)), (11, .dv (.int .i64) t11_a)], []⟩
def l82b (a88c : Int → Option (List (Int × Int × Unit))) (N : Nat) (slices0 : List (List (Int × Int × Unit))) : Nat → Int → (List (Int × Int × Unit)) → Option (List (Int × Int × Unit))
  | 0, _, _ => none
  | n + 1, t27_b, newslice6_b => cond (decide (t27_b < (slices0.length : Int))) (chk (decide (0 ≤ t27_b ∧ t27_b < (slices0.length : Int))) (chk (small (newslice6_b.length + (slices0.getD t27_b.toNat ([] : List (Int × Int × Unit))).length) 16) ((l82b a88c N slices0 n (w64 (t27_b + (1 : Int))) (newslice6_b ++ (slices0.getD t27_b.toNat ([] : List (Int × Int × Unit))))))))
      (some newslice6_b)
theorem wl82b (a88c : Int → Option (List (Int × Int × Unit))) (N : Nat) (slices0 : List (List (Int × Int × Unit))) (m : Nat) (t27_b : Int) (newslice6_b : List (Int × Int × Unit)) : R82_1 a88c N (m + 1) (Sl82b slices0 t27_b newslice6_b) = cond (decide (t27_b < (slices0.length : Int))) (chk (decide (0 ≤ t27_b ∧ t27_b < (slices0.length : Int))) (chk (small (newslice6_b.length + (slices0.getD t27_b.toNat ([] : List (Int × Int × Unit))).length) 16) ((R82_1 a88c N m (Sl82b slices0 (w64 (t27_b + (1 : Int))) (newslice6_b ++ (slices0.getD t27_b.toNat ([] : List (Int × Int × Unit)))))))))
      (some newslice6_b) := by kernel_rfl
theorem ql82b (a88c : Int → Option (List (Int × Int × Unit))) (N : Nat) (slices0 : List (List (Int × Int × Unit))) : ∀ (m : Nat) (t27_b : Int) (newslice6_b : List (Int × Int × Unit)), R82_1 a88c N m (Sl82b slices0 t27_b newslice6_b) = l82b a88c N slices0 m t27_b newslice6_b
        | 0, _, _ => rfl
        | m + 1, t27_b, newslice6_b => by rw [wl82b]; simp only [l82b, ql82b a88c N slices0 m]
def l82a (a88c : Int → Option (List (Int × Int × Unit))) (N : Nat) (slices0 : List (List (Int × Int × Unit))) : Nat → Int → Int → Option (List (Int × Int × Unit))
  | 0, _, _ => none
  | n + 1, size3_a, t11_a => cond (decide (t11_a < (slices0.length : Int))) (chk (decide (0 ≤ t11_a ∧ t11_a < (slices0.length : Int))) (cond (decide ((w64 (size3_a + ((slices0.getD t11_a.toNat ([] : List (Int × Int × Unit))).length : Int))) < (0 : Int))) (none)
      ((l82a a88c N slices0 n (w64 (size3_a + ((slices0.getD t11_a.toNat ([] : List (Int × Int × Unit))).length : Int))) (w64 (t11_a + (1 : Int)))))))
      ((a88c size3_a).bind fun r1 =>
      (l82b a88c N slices0 N (0 : Int) r1))
theorem wl82a (a88c : Int → Option (List (Int × Int × Unit))) (N : Nat) (slices0 : List (List (Int × Int × Unit))) (m : Nat) (size3_a : Int) (t11_a : Int) : R82_0 a88c N (m + 1) (Sl82a slices0 size3_a t11_a) = cond (decide (t11_a < (slices0.length : Int))) (chk (decide (0 ≤ t11_a ∧ t11_a < (slices0.length : Int))) (cond (decide ((w64 (size3_a + ((slices0.getD t11_a.toNat ([] : List (Int × Int × Unit))).length : Int))) < (0 : Int))) (none)
      ((R82_0 a88c N m (Sl82a slices0 (w64 (size3_a + ((slices0.getD t11_a.toNat ([] : List (Int × Int × Unit))).length : Int))) (w64 (t11_a + (1 : Int))))))))
      ((a88c size3_a).bind fun r1 =>
      (R82_1 a88c N N (Sl82b slices0 (0 : Int) r1))) := by kernel_rfl
theorem ql82a (a88c : Int → Option (List (Int × Int × Unit))) (N : Nat) (slices0 : List (List (Int × Int × Unit))) : ∀ (m : Nat) (size3_a : Int) (t11_a : Int), R82_0 a88c N m (Sl82a slices0 size3_a t11_a) = l82a a88c N slices0 m size3_a t11_a
        | 0, _, _ => rfl
        | m + 1, size3_a, t11_a => by rw [wl82a]; simp only [l82a, ql82b, ql82a a88c N slices0 m]
def m82 (a88c : Int → Option (List (Int × Int × Unit))) (N : Nat) (slices0 : List (List (Int × Int × Unit))) : Option (List (Int × Int × Unit)) :=
      (l82a a88c N slices0 N (0 : Int) (0 : Int))
theorem wm82 (a88c : Int → Option (List (Int × Int × Unit))) (N : Nat) (slices0 : List (List (Int × Int × Unit))) : callF (E82 a88c) lv82 N en82 c82 (resOf Try.f82) 35 [.dv (.sl (.sl (.pair (.int .i64) (.pair (.int .i64) (.unit))))) slices0] [] dec82 = (R82_0 a88c N N (Sl82a slices0 (0 : Int) (0 : Int))) := by kernel_rfl
theorem k82 (a88c : Int → Option (List (Int × Int × Unit))) (N : Nat) (slices0 : List (List (Int × Int × Unit))) : callF (E82 a88c) lv82 N en82 c82 (resOf Try.f82) 35 [.dv (.sl (.sl (.pair (.int .i64) (.pair (.int .i64) (.unit))))) slices0] [] dec82 = m82 a88c N slices0 := by rw [wm82]; simp only [m82, ql82a]
theorem ok82 (a88c : Int → Option (List (Int × Int × Unit))) (h88c : FnOk Try.prog 88 (F88c a88c)) (a : (List (List (Int × Int × Unit))) → Option (List (Int × Int × Unit))) (h : ∀ slices0 r, a slices0 = some r → (∃ N, m82 a88c N slices0 = some r)) : FnOk Try.prog 82 (F82 a) := by
  intro args Of x hx
  simp only [F82] at hx
  split at hx
  · rename_i slices0
    obtain ⟨N, hN⟩ := h _ _ hx
    refine lifted (L := [(88, F88c a88c)]) (rc := nrc) (fz := nfz) (fn := Try.f82) (by kernel_rfl) (by kernel_rfl) (by kernel_rfl) (by kernel_rfl) rfl ?_ ((k82 a88c N _).trans hN) ?_
    · intro p hp; simp only [List.mem_cons, List.not_mem_nil, or_false] at hp; rcases hp with rfl; exact h88c
    · intro l o hd
      simp only [dec82] at hd
      split at hd
      · obtain rfl := Option.some.inj hd; exact ⟨rfl, rfl⟩
      · cases hd
  · cases hx
def E64 (a82 : (List (List (Int × Int × Unit))) → Option (List (Int × Int × Unit))) : Env := mkE TI TY [(82, F82 a82)] nrc nfz
noncomputable def c64 : Code := bodyOf Try.f64
def lv64 : Nat → Option Norm := norms []
def en64 : End := ⟨[(14, .sl (.pair (.int .i64) (.pair (.int .i64) (.unit))))], ⟨[14], [], [], []⟩⟩
def dec64 (l : List TV) (o : List (Nat × TO)) : Option (List (Int × Int × Unit)) := match l, o with | [.dv (.sl (.pair (.int .i64) (.pair (.int .i64) (.unit)))) x0], [] => some (x0) | _, _ => none
def m64 (a82 : (List (List (Int × Int × Unit))) → Option (List (Int × Int × Unit))) (N : Nat) (l0 : List (Int × Int × Unit)) (i1 : Int) : Option (List (Int × Int × Unit)) :=
      chk (decide (0 ≤ i1 ∧ i1 ≤ (l0.length : Int))) (chk (decide (0 ≤ w64 (i1 + (1 : Int)) ∧ w64 (i1 + (1 : Int)) ≤ (l0.length : Int))) ((a82 ([l0.take i1.toNat, l0.drop ((w64 (i1 + (1 : Int))).toNat)] : List (List (Int × Int × Unit)))).bind fun r1 =>
      some r1))
theorem k64 (a82 : (List (List (Int × Int × Unit))) → Option (List (Int × Int × Unit))) (N : Nat) (l0 : List (Int × Int × Unit)) (i1 : Int) : callF (E64 a82) lv64 N en64 c64 (resOf Try.f64) 12 [.dv (.sl (.pair (.int .i64) (.pair (.int .i64) (.unit)))) l0, .dv (.int .i64) i1] [] dec64 = m64 a82 N l0 i1 := by kernel_rfl
theorem ok64 (a82 : (List (List (Int × Int × Unit))) → Option (List (Int × Int × Unit))) (h82 : FnOk Try.prog 82 (F82 a82)) (a : (List (Int × Int × Unit)) → Int → Option (List (Int × Int × Unit))) (h : ∀ l0 i1 r, a l0 i1 = some r → (∃ N, m64 a82 N l0 i1 = some r)) : FnOk Try.prog 64 (F64 a) := by
  intro args Of x hx
  simp only [F64] at hx
  split at hx
  · rename_i l0 i1
    obtain ⟨N, hN⟩ := h _ _ _ hx
    refine lifted (L := [(82, F82 a82)]) (rc := nrc) (fz := nfz) (fn := Try.f64) (by kernel_rfl) (by kernel_rfl) (by kernel_rfl) (by kernel_rfl) rfl ?_ ((k64 a82 N _ _).trans hN) ?_
    · intro p hp; simp only [List.mem_cons, List.not_mem_nil, or_false] at hp; rcases hp with rfl; exact h82
    · intro l o hd
      simp only [dec64] at hd
      split at hd
      · obtain rfl := Option.some.inj hd; exact ⟨rfl, rfl⟩
      · cases hd
  · cases hx
def E30 (a23 : (List (Int × Int × Unit)) → Option (Int)) (a53 : (List (Int × Int × Unit)) → Option (Int)) (a64 : (List (Int × Int × Unit)) → Int → Option (List (Int × Int × Unit))) : Env := mkE TI TY [(23, F23 a23), (53, F53 a53), (64, F64 a64)] nrc nfz
noncomputable def c30 : Code := bodyOf Try.f30
def nm30_0 : Norm := ⟨[0, 5, 16, 17, 18], [], [(.slot 6, 1006, .int .i64)], []⟩
def lv30 : Nat → Option Norm := norms [(7, nm30_0)]
def en30 : End := ⟨[(38, .sl (.int .i64))], ⟨[38, 39], [], [], []⟩⟩
def dec30 (l : List TV) (o : List (Nat × TO)) : Option (List Int × Int) := match l, o with | [.dv (.sl (.int .i64)) x0, .dv (.int .i64) x1], [] => some (x0, x1) | _, _ => none
noncomputable def K30_0 (a23 : (List (Int × Int × Unit)) → Option (Int)) (a53 : (List (Int × Int × Unit)) → Option (Int)) (a64 : (List (Int × Int × Unit)) → Int → Option (List (Int × Int × Unit))) (N : Nat) : Kont (List Int × Int) := kont (E30 a23 a53 a64) lv30 N c30 [1, 1, 1, 1, 0, 1, 0] (fin TI en30 (resOf Try.f30) dec30)
noncomputable def R30_0 (a23 : (List (Int × Int × Unit)) → Option (Int)) (a53 : (List (Int × Int × Unit)) → Option (Int)) (a64 : (List (Int × Int × Unit)) → Int → Option (List (Int × Int × Unit))) (N : Nat) (m : Nat) : TS → Option (List Int × Int) := loopK (den (E30 a23 a53 a64) lv30 N (sub c30 [1, 1, 1, 1, 0, 1, 0, 0])) (TS.norm nm30_0) (K30_0 a23 a53 a64 N) m
def Sl30a (l0 : List (Int × Int × Unit)) (r2 : Int) (t18_a : Int) (out6_a : List Int) : TS := ⟨slots 38 [(0, .dv (.sl (.pair (.int .i64) (.pair (.int .i64) (.unit)))) l0), (5, .dv (.int .i64) r2), (6, .row 1006), (16, .dv (.sl (.pair (.int .i64) (.pair (.int .i64) (.unit)))) l0), (17, .dv (.int .i64) (l0.length : Int)), (18, .dv (.int .i64) t18_a)], [(1006, .row (.int .i64) out6_a)]⟩
def l30a (a23 : (List (Int × Int × Unit)) → Option (Int)) (a53 : (List (Int × Int × Unit)) → Option (Int)) (a64 : (List (Int × Int × Unit)) → Int → Option (List (Int × Int × Unit))) (N : Nat) (l0 : List (Int × Int × Unit)) (r2 : Int) : Nat → Int → (List Int) → Option (List Int × Int)
  | 0, _, _ => none
  | n + 1, t18_a, out6_a => cond (decide (t18_a < (l0.length : Int))) (chk (decide (0 ≤ t18_a ∧ t18_a < (l0.length : Int))) ((a64 l0 t18_a).bind fun r3 =>
      (a53 r3).bind fun r4 =>
      cond (decide ((w64 ((((l0.getD t18_a.toNat ((0 : Int), ((0 : Int), ()))).2).1) + r4)) > r2)) (chk (small (out6_a.length + 1) 8) ((l30a a23 a53 a64 N l0 r2 n (w64 (t18_a + (1 : Int))) (out6_a ++ ([t18_a] : List Int)))))
      ((l30a a23 a53 a64 N l0 r2 n (w64 (t18_a + (1 : Int))) out6_a))))
      (some (out6_a, (0 : Int)))
theorem wl30a (a23 : (List (Int × Int × Unit)) → Option (Int)) (a53 : (List (Int × Int × Unit)) → Option (Int)) (a64 : (List (Int × Int × Unit)) → Int → Option (List (Int × Int × Unit))) (N : Nat) (l0 : List (Int × Int × Unit)) (r2 : Int) (m : Nat) (t18_a : Int) (out6_a : List Int) : R30_0 a23 a53 a64 N (m + 1) (Sl30a l0 r2 t18_a out6_a) = cond (decide (t18_a < (l0.length : Int))) (chk (decide (0 ≤ t18_a ∧ t18_a < (l0.length : Int))) ((a64 l0 t18_a).bind fun r3 =>
      (a53 r3).bind fun r4 =>
      cond (decide ((w64 ((((l0.getD t18_a.toNat ((0 : Int), ((0 : Int), ()))).2).1) + r4)) > r2)) (chk (small (out6_a.length + 1) 8) ((R30_0 a23 a53 a64 N m (Sl30a l0 r2 (w64 (t18_a + (1 : Int))) (out6_a ++ ([t18_a] : List Int))))))
      ((R30_0 a23 a53 a64 N m (Sl30a l0 r2 (w64 (t18_a + (1 : Int))) out6_a)))))
      (some (out6_a, (0 : Int))) := by kernel_rfl
theorem ql30a (a23 : (List (Int × Int × Unit)) → Option (Int)) (a53 : (List (Int × Int × Unit)) → Option (Int)) (a64 : (List (Int × Int × Unit)) → Int → Option (List (Int × Int × Unit))) (N : Nat) (l0 : List (Int × Int × Unit)) (r2 : Int) : ∀ (m : Nat) (t18_a : Int) (out6_a : List Int), R30_0 a23 a53 a64 N m (Sl30a l0 r2 t18_a out6_a) = l30a a23 a53 a64 N l0 r2 m t18_a out6_a
        | 0, _, _ => rfl
        | m + 1, t18_a, out6_a => by rw [wl30a]; simp only [l30a, ql30a a23 a53 a64 N l0 r2 m]
def m30 (a23 : (List (Int × Int × Unit)) → Option (Int)) (a53 : (List (Int × Int × Unit)) → Option (Int)) (a64 : (List (Int × Int × Unit)) → Int → Option (List (Int × Int × Unit))) (N : Nat) (l0 : List (Int × Int × Unit)) : Option (List Int × Int) :=
      (a23 l0).bind fun r1 =>
      cond (r1 != (0 : Int)) (some (([] : List Int), r1))
      ((a53 l0).bind fun r2 =>
      (l30a a23 a53 a64 N l0 r2 N (0 : Int) ([] : List Int)))
theorem wm30 (a23 : (List (Int × Int × Unit)) → Option (Int)) (a53 : (List (Int × Int × Unit)) → Option (Int)) (a64 : (List (Int × Int × Unit)) → Int → Option (List (Int × Int × Unit))) (N : Nat) (l0 : List (Int × Int × Unit)) : callF (E30 a23 a53 a64) lv30 N en30 c30 (resOf Try.f30) 37 [.dv (.sl (.pair (.int .i64) (.pair (.int .i64) (.unit)))) l0] [] dec30 = (a23 l0).bind fun r1 =>
      cond (r1 != (0 : Int)) (some (([] : List Int), r1))
      ((a53 l0).bind fun r2 =>
      (R30_0 a23 a53 a64 N N (Sl30a l0 r2 (0 : Int) ([] : List Int)))) := by kernel_rfl
theorem k30 (a23 : (List (Int × Int × Unit)) → Option (Int)) (a53 : (List (Int × Int × Unit)) → Option (Int)) (a64 : (List (Int × Int × Unit)) → Int → Option (List (Int × Int × Unit))) (N : Nat) (l0 : List (Int × Int × Unit)) : callF (E30 a23 a53 a64) lv30 N en30 c30 (resOf Try.f30) 37 [.dv (.sl (.pair (.int .i64) (.pair (.int .i64) (.unit)))) l0] [] dec30 = m30 a23 a53 a64 N l0 := by rw [wm30]; simp only [m30, ql30a]
theorem ok30 (a23 : (List (Int × Int × Unit)) → Option (Int)) (a53 : (List (Int × Int × Unit)) → Option (Int)) (a64 : (List (Int × Int × Unit)) → Int → Option (List (Int × Int × Unit))) (h23 : FnOk Try.prog 23 (F23 a23)) (h53 : FnOk Try.prog 53 (F53 a53)) (h64 : FnOk Try.prog 64 (F64 a64)) (a : (List (Int × Int × Unit)) → Option (List Int × Int)) (h : ∀ l0 r, a l0 = some r → (∃ N, m30 a23 a53 a64 N l0 = some r)) : FnOk Try.prog 30 (F30 a) := by
  intro args Of x hx
  simp only [F30] at hx
  split at hx
  · rename_i l0
    obtain ⟨N, hN⟩ := h _ _ hx
    refine lifted (L := [(23, F23 a23), (53, F53 a53), (64, F64 a64)]) (rc := nrc) (fz := nfz) (fn := Try.f30) (by kernel_rfl) (by kernel_rfl) (by kernel_rfl) (by kernel_rfl) rfl ?_ ((k30 a23 a53 a64 N _).trans hN) ?_
    · intro p hp; simp only [List.mem_cons, List.not_mem_nil, or_false] at hp; rcases hp with rfl | rfl | rfl
      · exact h23
      · exact h53
      · exact h64
    · intro l o hd
      simp only [dec30] at hd
      split at hd
      · obtain rfl := Option.some.inj hd; exact ⟨rfl, rfl⟩
      · cases hd
  · cases hx
def E55cv1 (a60c78 : (List Int) → (List (Int × Int × Unit)) → Option (List Int × List (Int × Int × Unit))) (a63 : (List Int) → Int → Option (Bool)) (a70c : (List Int) → Option (List Int)) (a76cv2 : Int → (List (Int × Int × Unit)) → (List Int) → Option (Bool × List (Int × Int × Unit) × List Int)) : Env := mkE TI TY [(60, F60c78 a60c78), (63, F63 a63), (70, F70c a70c), (76, F76cv2 a76cv2)] nrc nfz
noncomputable def c55cv1 : Code := bodyOf Try.f55
def nm55cv1_0 : Norm := ⟨[2, 3, 5, 6, 15, 16], [2, 3, 13, 9000], [], []⟩
def nm55cv1_1 : Norm := ⟨[3, 5, 27, 28, 29], [3, 2, 13, 9000], [(.fld 3 0, 2100, .int .i64)], []⟩
def lv55cv1 : Nat → Option Norm := norms [(4, nm55cv1_0), (10, nm55cv1_1)]
def en55cv1 : End := ⟨[], ⟨[], [9000], [(.slot 50, 1500, .int .i64)], []⟩⟩
def dec55cv1 (l : List TV) (o : List (Nat × TO)) : Option (List Int) := match l, o with | [.row 1500], [(1500, .row (.int .i64) x0), (9000, .dead)] => some (x0) | _, _ => none
noncomputable def K55cv1_0 (a60c78 : (List Int) → (List (Int × Int × Unit)) → Option (List Int × List (Int × Int × Unit))) (a63 : (List Int) → Int → Option (Bool)) (a70c : (List Int) → Option (List Int)) (a76cv2 : Int → (List (Int × Int × Unit)) → (List Int) → Option (Bool × List (Int × Int × Unit) × List Int)) (N : Nat) : Kont (List Int) := kont (E55cv1 a60c78 a63 a70c a76cv2) lv55cv1 N c55cv1 [1, 1, 1, 0, 1, 0] (fin TI en55cv1 (resOf Try.f55) dec55cv1)
noncomputable def R55cv1_0 (a60c78 : (List Int) → (List (Int × Int × Unit)) → Option (List Int × List (Int × Int × Unit))) (a63 : (List Int) → Int → Option (Bool)) (a70c : (List Int) → Option (List Int)) (a76cv2 : Int → (List (Int × Int × Unit)) → (List Int) → Option (Bool × List (Int × Int × Unit) × List Int)) (N : Nat) (m : Nat) : TS → Option (List Int) := loopK (den (E55cv1 a60c78 a63 a70c a76cv2) lv55cv1 N (sub c55cv1 [1, 1, 1, 0, 1, 0, 0])) (TS.norm nm55cv1_0) (K55cv1_0 a60c78 a63 a70c a76cv2 N) m
noncomputable def K55cv1_1 (a60c78 : (List Int) → (List (Int × Int × Unit)) → Option (List Int × List (Int × Int × Unit))) (a63 : (List Int) → Int → Option (Bool)) (a70c : (List Int) → Option (List Int)) (a76cv2 : Int → (List (Int × Int × Unit)) → (List Int) → Option (Bool × List (Int × Int × Unit) × List Int)) (N : Nat) : Kont (List Int) := kont (E55cv1 a60c78 a63 a70c a76cv2) lv55cv1 N c55cv1 [1, 1, 1, 1, 1, 0, 1, 0] (fin TI en55cv1 (resOf Try.f55) dec55cv1)
noncomputable def R55cv1_1 (a60c78 : (List Int) → (List (Int × Int × Unit)) → Option (List Int × List (Int × Int × Unit))) (a63 : (List Int) → Int → Option (Bool)) (a70c : (List Int) → Option (List Int)) (a76cv2 : Int → (List (Int × Int × Unit)) → (List Int) → Option (Bool × List (Int × Int × Unit) × List Int)) (N : Nat) (m : Nat) : TS → Option (List Int) := loopK (den (E55cv1 a60c78 a63 a70c a76cv2) lv55cv1 N (sub c55cv1 [1, 1, 1, 1, 1, 0, 1, 0, 0])) (TS.norm nm55cv1_1) (K55cv1_1 a60c78 a63 a70c a76cv2 N) m
def Sl55cv1b (r1 : List Int × List (Int × Int × Unit)) (t29_b : Int) (o2100_b : List Int) (o2_bf0 : List (Int × Int × Unit)) : TS := ⟨slots 50 [(3, .ptr 3 0 [0]), (5, .fn 76 0 2 fun i => ([.ptr 2 0 [0], .ptr 3 0 [0]] : List TV).getD i .any), (27, .row 13), (28, .dv (.int .i64) (r1.1.length : Int)), (29, .dv (.int .i64) t29_b)], [(2100, .row (.int .i64) o2100_b), (3, .rcd [.row 2100]), (2, .rcd [.dv (.sl (.pair (.int .i64) (.pair (.int .i64) (.unit)))) o2_bf0]), (13, .row (.int .i64) r1.1), (9000, .dead)]⟩
def Sl55cv1a (l0 : List (Int × Int × Unit)) (p1 : List Int) (t16_a : Int) (o13_a : List Int) : TS := ⟨slots 50 [(2, .ptr 2 0 [0]), (3, .ptr 3 0 [0]), (5, .fn 76 0 2 fun i => ([.ptr 2 0 [0], .ptr 3 0 [0]] : List TV).getD i .any), (6, .row 13), (15, .dv (.int .i64) ((List.replicate ((l0.length : Int).toNat) (0 : Int)).length : Int)), (16, .dv (.int .i64) t16_a)], [(2, .rcd [.dv (.sl (.pair (.int .i64) (.pair (.int .i64) (.unit)))) l0]), (3, .rcd [.row 9000]), (13, .row (.int .i64) o13_a), (9000, .row (.int .i64) p1)]⟩
def l55cv1b (a60c78 : (List Int) → (List (Int × Int × Unit)) → Option (List Int × List (Int × Int × Unit))) (a63 : (List Int) → Int → Option (Bool)) (a70c : (List Int) → Option (List Int)) (a76cv2 : Int → (List (Int × Int × Unit)) → (List Int) → Option (Bool × List (Int × Int × Unit) × List Int)) (N : Nat) (r1 : List Int × List (Int × Int × Unit)) : Nat → Int → (List Int) → (List (Int × Int × Unit)) → Option (List Int)
  | 0, _, _, _ => none
  | n + 1, t29_b, o2100_b, o2_bf0 => cond (decide (t29_b < (r1.1.length : Int))) (chk (decide (0 ≤ t29_b ∧ t29_b < (r1.1.length : Int))) ((a63 o2100_b (r1.1.getD t29_b.toNat (0 : Int))).bind fun r2 =>
      cond (!r2) ((a76cv2 (r1.1.getD t29_b.toNat (0 : Int)) o2_bf0 o2100_b).bind fun r3 =>
      cond (r3.1) (chk (small (r3.2.2.length + 1) 8) ((l55cv1b a60c78 a63 a70c a76cv2 N r1 n (w64 (t29_b + (1 : Int))) (r3.2.2 ++ ([r1.1.getD t29_b.toNat (0 : Int)] : List Int)) r3.2.1)))
      ((l55cv1b a60c78 a63 a70c a76cv2 N r1 n (w64 (t29_b + (1 : Int))) r3.2.2 r3.2.1)))
      ((l55cv1b a60c78 a63 a70c a76cv2 N r1 n (w64 (t29_b + (1 : Int))) o2100_b o2_bf0))))
      ((a70c o2100_b).bind fun r4 =>
      some r4)
theorem wl55cv1b (a60c78 : (List Int) → (List (Int × Int × Unit)) → Option (List Int × List (Int × Int × Unit))) (a63 : (List Int) → Int → Option (Bool)) (a70c : (List Int) → Option (List Int)) (a76cv2 : Int → (List (Int × Int × Unit)) → (List Int) → Option (Bool × List (Int × Int × Unit) × List Int)) (N : Nat) (r1 : List Int × List (Int × Int × Unit)) (m : Nat) (t29_b : Int) (o2100_b : List Int) (o2_bf0 : List (Int × Int × Unit)) : R55cv1_1 a60c78 a63 a70c a76cv2 N (m + 1) (Sl55cv1b r1 t29_b o2100_b o2_bf0) = cond (decide (t29_b < (r1.1.length : Int))) (chk (decide (0 ≤ t29_b ∧ t29_b < (r1.1.length : Int))) ((a63 o2100_b (r1.1.getD t29_b.toNat (0 : Int))).bind fun r2 =>
      cond (!r2) ((a76cv2 (r1.1.getD t29_b.toNat (0 : Int)) o2_bf0 o2100_b).bind fun r3 =>
      cond (r3.1) (chk (small (r3.2.2.length + 1) 8) ((R55cv1_1 a60c78 a63 a70c a76cv2 N m (Sl55cv1b r1 (w64 (t29_b + (1 : Int))) (r3.2.2 ++ ([r1.1.getD t29_b.toNat (0 : Int)] : List Int)) r3.2.1))))
      ((R55cv1_1 a60c78 a63 a70c a76cv2 N m (Sl55cv1b r1 (w64 (t29_b + (1 : Int))) r3.2.2 r3.2.1))))
      ((R55cv1_1 a60c78 a63 a70c a76cv2 N m (Sl55cv1b r1 (w64 (t29_b + (1 : Int))) o2100_b o2_bf0)))))
      ((a70c o2100_b).bind fun r4 =>
      some r4) := by kernel_rfl
theorem ql55cv1b (a60c78 : (List Int) → (List (Int × Int × Unit)) → Option (List Int × List (Int × Int × Unit))) (a63 : (List Int) → Int → Option (Bool)) (a70c : (List Int) → Option (List Int)) (a76cv2 : Int → (List (Int × Int × Unit)) → (List Int) → Option (Bool × List (Int × Int × Unit) × List Int)) (N : Nat) (r1 : List Int × List (Int × Int × Unit)) : ∀ (m : Nat) (t29_b : Int) (o2100_b : List Int) (o2_bf0 : List (Int × Int × Unit)), R55cv1_1 a60c78 a63 a70c a76cv2 N m (Sl55cv1b r1 t29_b o2100_b o2_bf0) = l55cv1b a60c78 a63 a70c a76cv2 N r1 m t29_b o2100_b o2_bf0
        | 0, _, _, _ => rfl
        | m + 1, t29_b, o2100_b, o2_bf0 => by rw [wl55cv1b]; simp only [l55cv1b, ql55cv1b a60c78 a63 a70c a76cv2 N r1 m]
def l55cv1a (a60c78 : (List Int) → (List (Int × Int × Unit)) → Option (List Int × List (Int × Int × Unit))) (a63 : (List Int) → Int → Option (Bool)) (a70c : (List Int) → Option (List Int)) (a76cv2 : Int → (List (Int × Int × Unit)) → (List Int) → Option (Bool × List (Int × Int × Unit) × List Int)) (N : Nat) (l0 : List (Int × Int × Unit)) (p1 : List Int) : Nat → Int → (List Int) → Option (List Int)
  | 0, _, _ => none
  | n + 1, t16_a, o13_a => cond (decide (t16_a < ((List.replicate ((l0.length : Int).toNat) (0 : Int)).length : Int))) (chk (decide (0 ≤ t16_a ∧ t16_a < (o13_a.length : Int))) ((l55cv1a a60c78 a63 a70c a76cv2 N l0 p1 n (w64 (t16_a + (1 : Int))) (o13_a.set t16_a.toNat t16_a))))
      ((a60c78 o13_a l0).bind fun r1 =>
      (l55cv1b a60c78 a63 a70c a76cv2 N r1 N (0 : Int) p1 r1.2))
theorem wl55cv1a (a60c78 : (List Int) → (List (Int × Int × Unit)) → Option (List Int × List (Int × Int × Unit))) (a63 : (List Int) → Int → Option (Bool)) (a70c : (List Int) → Option (List Int)) (a76cv2 : Int → (List (Int × Int × Unit)) → (List Int) → Option (Bool × List (Int × Int × Unit) × List Int)) (N : Nat) (l0 : List (Int × Int × Unit)) (p1 : List Int) (m : Nat) (t16_a : Int) (o13_a : List Int) : R55cv1_0 a60c78 a63 a70c a76cv2 N (m + 1) (Sl55cv1a l0 p1 t16_a o13_a) = cond (decide (t16_a < ((List.replicate ((l0.length : Int).toNat) (0 : Int)).length : Int))) (chk (decide (0 ≤ t16_a ∧ t16_a < (o13_a.length : Int))) ((R55cv1_0 a60c78 a63 a70c a76cv2 N m (Sl55cv1a l0 p1 (w64 (t16_a + (1 : Int))) (o13_a.set t16_a.toNat t16_a)))))
      ((a60c78 o13_a l0).bind fun r1 =>
      (R55cv1_1 a60c78 a63 a70c a76cv2 N N (Sl55cv1b r1 (0 : Int) p1 r1.2))) := by kernel_rfl
theorem ql55cv1a (a60c78 : (List Int) → (List (Int × Int × Unit)) → Option (List Int × List (Int × Int × Unit))) (a63 : (List Int) → Int → Option (Bool)) (a70c : (List Int) → Option (List Int)) (a76cv2 : Int → (List (Int × Int × Unit)) → (List Int) → Option (Bool × List (Int × Int × Unit) × List Int)) (N : Nat) (l0 : List (Int × Int × Unit)) (p1 : List Int) : ∀ (m : Nat) (t16_a : Int) (o13_a : List Int), R55cv1_0 a60c78 a63 a70c a76cv2 N m (Sl55cv1a l0 p1 t16_a o13_a) = l55cv1a a60c78 a63 a70c a76cv2 N l0 p1 m t16_a o13_a
        | 0, _, _ => rfl
        | m + 1, t16_a, o13_a => by rw [wl55cv1a]; simp only [l55cv1a, ql55cv1b, ql55cv1a a60c78 a63 a70c a76cv2 N l0 p1 m]
def m55cv1 (a60c78 : (List Int) → (List (Int × Int × Unit)) → Option (List Int × List (Int × Int × Unit))) (a63 : (List Int) → Int → Option (Bool)) (a70c : (List Int) → Option (List Int)) (a76cv2 : Int → (List (Int × Int × Unit)) → (List Int) → Option (Bool × List (Int × Int × Unit) × List Int)) (N : Nat) (l0 : List (Int × Int × Unit)) (p1 : List Int) : Option (List Int) :=
      chk (mkOk (l0.length : Int) (l0.length : Int) 8) ((l55cv1a a60c78 a63 a70c a76cv2 N l0 p1 N (0 : Int) (List.replicate ((l0.length : Int).toNat) (0 : Int))))
theorem wm55cv1 (a60c78 : (List Int) → (List (Int × Int × Unit)) → Option (List Int × List (Int × Int × Unit))) (a63 : (List Int) → Int → Option (Bool)) (a70c : (List Int) → Option (List Int)) (a76cv2 : Int → (List (Int × Int × Unit)) → (List Int) → Option (Bool × List (Int × Int × Unit) × List Int)) (N : Nat) (l0 : List (Int × Int × Unit)) (p1 : List Int) : callF (E55cv1 a60c78 a63 a70c a76cv2) lv55cv1 N en55cv1 c55cv1 (resOf Try.f55) 48 [.dv (.sl (.pair (.int .i64) (.pair (.int .i64) (.unit)))) l0, .row 9000] [(9000, .row (.int .i64) p1)] dec55cv1 = chk (mkOk (l0.length : Int) (l0.length : Int) 8) ((R55cv1_0 a60c78 a63 a70c a76cv2 N N (Sl55cv1a l0 p1 (0 : Int) (List.replicate ((l0.length : Int).toNat) (0 : Int))))) := by kernel_rfl
theorem k55cv1 (a60c78 : (List Int) → (List (Int × Int × Unit)) → Option (List Int × List (Int × Int × Unit))) (a63 : (List Int) → Int → Option (Bool)) (a70c : (List Int) → Option (List Int)) (a76cv2 : Int → (List (Int × Int × Unit)) → (List Int) → Option (Bool × List (Int × Int × Unit) × List Int)) (N : Nat) (l0 : List (Int × Int × Unit)) (p1 : List Int) : callF (E55cv1 a60c78 a63 a70c a76cv2) lv55cv1 N en55cv1 c55cv1 (resOf Try.f55) 48 [.dv (.sl (.pair (.int .i64) (.pair (.int .i64) (.unit)))) l0, .row 9000] [(9000, .row (.int .i64) p1)] dec55cv1 = m55cv1 a60c78 a63 a70c a76cv2 N l0 p1 := by rw [wm55cv1]; simp only [m55cv1, ql55cv1a]
theorem ok55cv1 (a60c78 : (List Int) → (List (Int × Int × Unit)) → Option (List Int × List (Int × Int × Unit))) (a63 : (List Int) → Int → Option (Bool)) (a70c : (List Int) → Option (List Int)) (a76cv2 : Int → (List (Int × Int × Unit)) → (List Int) → Option (Bool × List (Int × Int × Unit) × List Int)) (h60c78 : FnOk Try.prog 60 (F60c78 a60c78)) (h63 : FnOk Try.prog 63 (F63 a63)) (h70c : FnOk Try.prog 70 (F70c a70c)) (h76cv2 : FnOk Try.prog 76 (F76cv2 a76cv2)) (a : (List (Int × Int × Unit)) → (List Int) → Option (List Int)) (h : ∀ l0 p1 r, a l0 p1 = some r → (∃ N, m55cv1 a60c78 a63 a70c a76cv2 N l0 p1 = some r)) : FnOk Try.prog 55 (F55cv1 a) := by
  intro args Of x hx
  simp only [F55cv1] at hx
  split at hx
  · rename_i l0 p1
    obtain ⟨N, hN⟩ := h _ _ _ hx
    refine lifted (L := [(60, F60c78 a60c78), (63, F63 a63), (70, F70c a70c), (76, F76cv2 a76cv2)]) (rc := nrc) (fz := nfz) (fn := Try.f55) (by kernel_rfl) (by kernel_rfl) (by kernel_rfl) (by kernel_rfl) rfl ?_ ((k55cv1 a60c78 a63 a70c a76cv2 N _ _).trans hN) ?_
    · intro p hp; simp only [List.mem_cons, List.not_mem_nil, or_false] at hp; rcases hp with rfl | rfl | rfl | rfl
      · exact h60c78
      · exact h63
      · exact h70c
      · exact h76cv2
    · intro l o hd
      simp only [dec55cv1] at hd
      split at hd
      · obtain rfl := Option.some.inj hd; exact ⟨rfl, rfl⟩
      · cases hd
  · cases hx
def E66c : Env := mkE TI TY [] nrc nfz
noncomputable def c66c : Code := bodyOf Try.f66
def lv66c : Nat → Option Norm := norms []
def en66c : End := ⟨[], ⟨[7], [9000], [], []⟩⟩
def dec66c (l : List TV) (o : List (Nat × TO)) : Option (Bool × List (Int × Int × Unit)) := match l, o with | [.dv (.bool) x0], [(9000, .row (.pair (.int .i64) (.pair (.int .i64) (.unit))) x1)] => some (x0, x1) | _, _ => none
def m66c (N : Nat) (x0 : Int × Int × Unit) (p1 : List (Int × Int × Unit)) : Option (Bool × List (Int × Int × Unit)) :=
      some (DT.beq (.pair (.int .i64) (.pair (.int .i64) (.unit))) x0 (p1.getD 0 ((0 : Int), ((0 : Int), ()))), p1)
theorem k66c (N : Nat) (x0 : Int × Int × Unit) (p1 : List (Int × Int × Unit)) : callF (E66c) lv66c N en66c c66c (resOf Try.f66) 5 [.dv (.pair (.int .i64) (.pair (.int .i64) (.unit))) x0, .ptr 9000 0 []] [(9000, .row (.pair (.int .i64) (.pair (.int .i64) (.unit))) p1)] dec66c = m66c N x0 p1 := by kernel_rfl
theorem ok66c (a : (Int × Int × Unit) → (List (Int × Int × Unit)) → Option (Bool × List (Int × Int × Unit))) (h : ∀ x0 p1 r, a x0 p1 = some r → (∃ N, m66c N x0 p1 = some r)) : FnOk Try.prog 66 (F66c a) := by
  intro args Of x hx
  simp only [F66c] at hx
  split at hx
  · rename_i x0 p1
    obtain ⟨N, hN⟩ := h _ _ _ hx
    refine lifted (L := []) (rc := nrc) (fz := nfz) (fn := Try.f66) (by kernel_rfl) (by kernel_rfl) (by kernel_rfl) (by kernel_rfl) rfl ?_ ((k66c N _ _).trans hN) ?_
    · intro p hp; cases hp
    · intro l o hd
      simp only [dec66c] at hd
      split at hd
      · obtain rfl := Option.some.inj hd; exact ⟨rfl, rfl⟩
      · cases hd
  · cases hx
def E65c66 (a66c : (Int × Int × Unit) → (List (Int × Int × Unit)) → Option (Bool × List (Int × Int × Unit))) : Env := mkE TI TY [(66, F66c a66c)] nrc nfz
noncomputable def c65c66 : Code := bodyOf Try.f65
def nm65c66_0 : Norm := ⟨[0, 1, 7, 8], [9000], [], []⟩
def lv65c66 : Nat → Option Norm := norms [(2, nm65c66_0)]
def en65c66 : End := ⟨[], ⟨[19], [9000], [], []⟩⟩
def dec65c66 (l : List TV) (o : List (Nat × TO)) : Option (Int × List (Int × Int × Unit)) := match l, o with | [.dv (.int .i64) x0], [(9000, .row (.pair (.int .i64) (.pair (.int .i64) (.unit))) x1)] => some (x0, x1) | _, _ => none
noncomputable def K65c66_0 (a66c : (Int × Int × Unit) → (List (Int × Int × Unit)) → Option (Bool × List (Int × Int × Unit))) (N : Nat) : Kont (Int × List (Int × Int × Unit)) := kont (E65c66 a66c) lv65c66 N c65c66 [1, 0, 1, 0] (fin TI en65c66 (resOf Try.f65) dec65c66)
noncomputable def R65c66_0 (a66c : (Int × Int × Unit) → (List (Int × Int × Unit)) → Option (Bool × List (Int × Int × Unit))) (N : Nat) (m : Nat) : TS → Option (Int × List (Int × Int × Unit)) := loopK (den (E65c66 a66c) lv65c66 N (sub c65c66 [1, 0, 1, 0, 0])) (TS.norm nm65c66_0) (K65c66_0 a66c N) m
def Sl65c66a (s0 : List (Int × Int × Unit)) (t8_a : Int) (o9000_a : List (Int × Int × Unit)) : TS := ⟨slots 19 [(0, .dv (.sl (.pair (.int .i64) (.pair (.int .i64) (.unit)))) s0), (1, .fn 66 0 1 fun i => ([.ptr 9000 0 []] : List TV).getD i .any), (7, .dv (.int .i64) (s0.length : Int)), (8, .dv (.int .i64) t8_a)], [(9000, .row (.pair (.int .i64) (.pair (.int .i64) (.unit))) o9000_a)]⟩
def l65c66a (a66c : (Int × Int × Unit) → (List (Int × Int × Unit)) → Option (Bool × List (Int × Int × Unit))) (N : Nat) (s0 : List (Int × Int × Unit)) : Nat → Int → (List (Int × Int × Unit)) → Option (Int × List (Int × Int × Unit))
  | 0, _, _ => none
  | n + 1, t8_a, o9000_a => cond (decide (t8_a < (s0.length : Int))) (chk (decide (0 ≤ t8_a ∧ t8_a < (s0.length : Int))) ((a66c (s0.getD t8_a.toNat ((0 : Int), ((0 : Int), ()))) o9000_a).bind fun r1 =>
      cond (r1.1) (some (t8_a, r1.2))
      ((l65c66a a66c N s0 n (w64 (t8_a + (1 : Int))) r1.2))))
      (some ((-1 : Int), o9000_a))
theorem wl65c66a (a66c : (Int × Int × Unit) → (List (Int × Int × Unit)) → Option (Bool × List (Int × Int × Unit))) (N : Nat) (s0 : List (Int × Int × Unit)) (m : Nat) (t8_a : Int) (o9000_a : List (Int × Int × Unit)) : R65c66_0 a66c N (m + 1) (Sl65c66a s0 t8_a o9000_a) = cond (decide (t8_a < (s0.length : Int))) (chk (decide (0 ≤ t8_a ∧ t8_a < (s0.length : Int))) ((a66c (s0.getD t8_a.toNat ((0 : Int), ((0 : Int), ()))) o9000_a).bind fun r1 =>
      cond (r1.1) (some (t8_a, r1.2))
      ((R65c66_0 a66c N m (Sl65c66a s0 (w64 (t8_a + (1 : Int))) r1.2)))))
      (some ((-1 : Int), o9000_a)) := by kernel_rfl
theorem ql65c66a (a66c : (Int × Int × Unit) → (List (Int × Int × Unit)) → Option (Bool × List (Int × Int × Unit))) (N : Nat) (s0 : List (Int × Int × Unit)) : ∀ (m : Nat) (t8_a : Int) (o9000_a : List (Int × Int × Unit)), R65c66_0 a66c N m (Sl65c66a s0 t8_a o9000_a) = l65c66a a66c N s0 m t8_a o9000_a
        | 0, _, _ => rfl
        | m + 1, t8_a, o9000_a => by rw [wl65c66a]; simp only [l65c66a, ql65c66a a66c N s0 m]
def m65c66 (a66c : (Int × Int × Unit) → (List (Int × Int × Unit)) → Option (Bool × List (Int × Int × Unit))) (N : Nat) (s0 : List (Int × Int × Unit)) (p1 : List (Int × Int × Unit)) : Option (Int × List (Int × Int × Unit)) :=
      (l65c66a a66c N s0 N (0 : Int) p1)
theorem wm65c66 (a66c : (Int × Int × Unit) → (List (Int × Int × Unit)) → Option (Bool × List (Int × Int × Unit))) (N : Nat) (s0 : List (Int × Int × Unit)) (p1 : List (Int × Int × Unit)) : callF (E65c66 a66c) lv65c66 N en65c66 c65c66 (resOf Try.f65) 17 [.dv (.sl (.pair (.int .i64) (.pair (.int .i64) (.unit)))) s0, .fn 66 0 1 fun i => ([.ptr 9000 0 []] : List TV).getD i .any] [(9000, .row (.pair (.int .i64) (.pair (.int .i64) (.unit))) p1)] dec65c66 = (R65c66_0 a66c N N (Sl65c66a s0 (0 : Int) p1)) := by kernel_rfl
theorem k65c66 (a66c : (Int × Int × Unit) → (List (Int × Int × Unit)) → Option (Bool × List (Int × Int × Unit))) (N : Nat) (s0 : List (Int × Int × Unit)) (p1 : List (Int × Int × Unit)) : callF (E65c66 a66c) lv65c66 N en65c66 c65c66 (resOf Try.f65) 17 [.dv (.sl (.pair (.int .i64) (.pair (.int .i64) (.unit)))) s0, .fn 66 0 1 fun i => ([.ptr 9000 0 []] : List TV).getD i .any] [(9000, .row (.pair (.int .i64) (.pair (.int .i64) (.unit))) p1)] dec65c66 = m65c66 a66c N s0 p1 := by rw [wm65c66]; simp only [m65c66, ql65c66a]
theorem ok65c66 (a66c : (Int × Int × Unit) → (List (Int × Int × Unit)) → Option (Bool × List (Int × Int × Unit))) (h66c : FnOk Try.prog 66 (F66c a66c)) (a : (List (Int × Int × Unit)) → (List (Int × Int × Unit)) → Option (Int × List (Int × Int × Unit))) (h : ∀ s0 p1 r, a s0 p1 = some r → (∃ N, m65c66 a66c N s0 p1 = some r)) : FnOk Try.prog 65 (F65c66 a) := by
  intro args Of x hx
  simp only [F65c66] at hx
  split at hx
  · rename_i s0 f_0 p1 heqc
    have hc0 := congrArg (fun c : List (List TV) => c.getD 0 []) heqc
    obtain ⟨N, hN⟩ := h _ _ _ hx
    refine HSpec.etaL (args := [.dv (.sl (.pair (.int .i64) (.pair (.int .i64) (.unit)))) s0, .fn 66 0 1 fun i => ([.ptr 9000 0 []] : List TV).getD i .any]) (O := [(9000, .row (.pair (.int .i64) (.pair (.int .i64) (.unit))) p1)]) ⟨TV.sim_refl _, TV.sim_fn hc0, trivial⟩ ⟨rfl, TO.sim_refl _, trivial⟩ (lifted (L := [(66, F66c a66c)]) (rc := nrc) (fz := nfz) (fn := Try.f65) (by kernel_rfl) (by kernel_rfl) (by kernel_rfl) (by kernel_rfl) rfl ?_ ((k65c66 a66c N _ _).trans hN) ?_)
    · intro p hp; simp only [List.mem_cons, List.not_mem_nil, or_false] at hp; rcases hp with rfl; exact h66c
    · intro l o hd
      simp only [dec65c66] at hd
      split at hd
      · obtain rfl := Option.some.inj hd; exact ⟨rfl, rfl⟩
      · cases hd
  · cases hx
def E32 (a23 : (List (Int × Int × Unit)) → Option (Int)) (a53 : (List (Int × Int × Unit)) → Option (Int)) (a55cv1 : (List (Int × Int × Unit)) → (List Int) → Option (List Int)) (a63 : (List Int) → Int → Option (Bool)) (a65c66 : (List (Int × Int × Unit)) → (List (Int × Int × Unit)) → Option (Int × List (Int × Int × Unit))) : Env := mkE TI TY [(23, F23 a23), (53, F53 a53), (55, F55cv1 a55cv1), (63, F63 a63), (65, F65c66 a65c66)] nrc nfz
noncomputable def c32 : Code := bodyOf Try.f32
def nm32_0 : Norm := ⟨[0, 5, 21, 22, 23], [], [(.slot 6, 1006, .int .i64)], []⟩
def nm32_1 : Norm := ⟨[0, 5, 6, 7, 10, 11, 21, 22, 23, 35, 36, 37], [1006, 1341500], [], []⟩
def lv32 : Nat → Option Norm := norms [(7, nm32_0), (13, nm32_1)]
def en32 : End := ⟨[(60, .sl (.int .i64))], ⟨[60, 61], [], [], []⟩⟩
def dec32 (l : List TV) (o : List (Nat × TO)) : Option (List Int × Int) := match l, o with | [.dv (.sl (.int .i64)) x0, .dv (.int .i64) x1], [] => some (x0, x1) | _, _ => none
noncomputable def K32_0 (a23 : (List (Int × Int × Unit)) → Option (Int)) (a53 : (List (Int × Int × Unit)) → Option (Int)) (a55cv1 : (List (Int × Int × Unit)) → (List Int) → Option (List Int)) (a63 : (List Int) → Int → Option (Bool)) (a65c66 : (List (Int × Int × Unit)) → (List (Int × Int × Unit)) → Option (Int × List (Int × Int × Unit))) (N : Nat) : Kont (List Int × Int) := kont (E32 a23 a53 a55cv1 a63 a65c66) lv32 N c32 [1, 1, 1, 1, 0, 1, 0] (fin TI en32 (resOf Try.f32) dec32)
noncomputable def R32_0 (a23 : (List (Int × Int × Unit)) → Option (Int)) (a53 : (List (Int × Int × Unit)) → Option (Int)) (a55cv1 : (List (Int × Int × Unit)) → (List Int) → Option (List Int)) (a63 : (List Int) → Int → Option (Bool)) (a65c66 : (List (Int × Int × Unit)) → (List (Int × Int × Unit)) → Option (Int × List (Int × Int × Unit))) (N : Nat) (m : Nat) : TS → Option (List Int × Int) := loopK (den (E32 a23 a53 a55cv1 a63 a65c66) lv32 N (sub c32 [1, 1, 1, 1, 0, 1, 0, 0])) (TS.norm nm32_0) (K32_0 a23 a53 a55cv1 a63 a65c66 N) m
noncomputable def K32_1 (a23 : (List (Int × Int × Unit)) → Option (Int)) (a53 : (List (Int × Int × Unit)) → Option (Int)) (a55cv1 : (List (Int × Int × Unit)) → (List Int) → Option (List Int)) (a63 : (List Int) → Int → Option (Bool)) (a65c66 : (List (Int × Int × Unit)) → (List (Int × Int × Unit)) → Option (Int × List (Int × Int × Unit))) (N : Nat) (T32_0 : TS → Option (List Int × Int)) : Kont (List Int × Int) := kont (E32 a23 a53 a55cv1 a63 a65c66) lv32 N (sub c32 [1, 1, 1, 1, 0, 1, 0, 0]) [1, 1, 0, 0, 1, 1, 1, 1, 0, 1, 0] (kloop (TS.norm nm32_0) (K32_0 a23 a53 a55cv1 a63 a65c66 N) T32_0)
noncomputable def R32_1 (a23 : (List (Int × Int × Unit)) → Option (Int)) (a53 : (List (Int × Int × Unit)) → Option (Int)) (a55cv1 : (List (Int × Int × Unit)) → (List Int) → Option (List Int)) (a63 : (List Int) → Int → Option (Bool)) (a65c66 : (List (Int × Int × Unit)) → (List (Int × Int × Unit)) → Option (Int × List (Int × Int × Unit))) (N : Nat) (T32_0 : TS → Option (List Int × Int)) (m : Nat) : TS → Option (List Int × Int) := loopK (den (E32 a23 a53 a55cv1 a63 a65c66) lv32 N (sub c32 [1, 1, 1, 1, 0, 1, 0, 0, 1, 1, 0, 0, 1, 1, 1, 1, 0, 1, 0, 0])) (TS.norm nm32_1) (K32_1 a23 a53 a55cv1 a63 a65c66 N T32_0) m
def Sl32b (l0 : List (Int × Int × Unit)) (r2 : Int) (t23_a : Int) (out6_a : List Int) (r4 : List Int) (fines10_b : Int) (t37_b : Int) : TS := ⟨slots 60 [(0, .dv (.sl (.pair (.int .i64) (.pair (.int .i64) (.unit)))) l0), (5, .dv (.int .i64) r2), (6, .row 1006), (7, .dv (.int .i64) t23_a), (10, .dv (.int .i64) fines10_b), (11, .row 1341500), (21, .dv (.sl (.pair (.int .i64) (.pair (.int .i64) (.unit)))) l0), (22, .dv (.int .i64) (l0.length : Int)), (23, .dv (.int .i64) t23_a), (35, .dv (.sl (.pair (.int .i64) (.pair (.int .i64) (.unit)))) l0), (36, .dv (.int .i64) (l0.length : Int)), (37, .dv (.int .i64) t37_b)], [(1006, .row (.int .i64) out6_a), (1341500, .row (.int .i64) r4)]⟩
def Sl32a (l0 : List (Int × Int × Unit)) (r2 : Int) (t23_a : Int) (out6_a : List Int) : TS := ⟨slots 60 [(0, .dv (.sl (.pair (.int .i64) (.pair (.int .i64) (.unit)))) l0), (5, .dv (.int .i64) r2), (6, .row 1006), (21, .dv (.sl (.pair (.int .i64) (.pair (.int .i64) (.unit)))) l0), (22, .dv (.int .i64) (l0.length : Int)), (23, .dv (.int .i64) t23_a)], [(1006, .row (.int .i64) out6_a)]⟩
def l32b (a23 : (List (Int × Int × Unit)) → Option (Int)) (a53 : (List (Int × Int × Unit)) → Option (Int)) (a55cv1 : (List (Int × Int × Unit)) → (List Int) → Option (List Int)) (a63 : (List Int) → Int → Option (Bool)) (a65c66 : (List (Int × Int × Unit)) → (List (Int × Int × Unit)) → Option (Int × List (Int × Int × Unit))) (N : Nat) (l0 : List (Int × Int × Unit)) (r2 : Int) (t23_a : Int) (out6_a : List Int) (r4 : List Int) (rec_l32a : Int → (List Int) → Option (List Int × Int)) : Nat → Int → Int → Option (List Int × Int)
  | 0, _, _ => none
  | n + 1, fines10_b, t37_b => cond (decide (t37_b < (l0.length : Int))) (chk (decide (0 ≤ t37_b ∧ t37_b < (l0.length : Int))) ((a63 r4 t37_b).bind fun r5 =>
      cond (!r5) ((l32b a23 a53 a55cv1 a63 a65c66 N l0 r2 t23_a out6_a r4 rec_l32a n (w64 (fines10_b + (((l0.getD t37_b.toNat ((0 : Int), ((0 : Int), ()))).2).1))) (w64 (t37_b + (1 : Int)))))
      ((l32b a23 a53 a55cv1 a63 a65c66 N l0 r2 t23_a out6_a r4 rec_l32a n fines10_b (w64 (t37_b + (1 : Int)))))))
      (cond (decide (fines10_b > r2)) (chk (small (out6_a.length + 1) 8) ((rec_l32a (w64 (t23_a + (1 : Int))) (out6_a ++ ([t23_a] : List Int)))))
      ((rec_l32a (w64 (t23_a + (1 : Int))) out6_a)))
theorem wl32b (a23 : (List (Int × Int × Unit)) → Option (Int)) (a53 : (List (Int × Int × Unit)) → Option (Int)) (a55cv1 : (List (Int × Int × Unit)) → (List Int) → Option (List Int)) (a63 : (List Int) → Int → Option (Bool)) (a65c66 : (List (Int × Int × Unit)) → (List (Int × Int × Unit)) → Option (Int × List (Int × Int × Unit))) (N : Nat) (l0 : List (Int × Int × Unit)) (r2 : Int) (t23_a : Int) (out6_a : List Int) (r4 : List Int) (T32_0 : TS → Option (List Int × Int)) (m : Nat) (fines10_b : Int) (t37_b : Int) : R32_1 a23 a53 a55cv1 a63 a65c66 N T32_0 (m + 1) (Sl32b l0 r2 t23_a out6_a r4 fines10_b t37_b) = cond (decide (t37_b < (l0.length : Int))) (chk (decide (0 ≤ t37_b ∧ t37_b < (l0.length : Int))) ((a63 r4 t37_b).bind fun r5 =>
      cond (!r5) ((R32_1 a23 a53 a55cv1 a63 a65c66 N T32_0 m (Sl32b l0 r2 t23_a out6_a r4 (w64 (fines10_b + (((l0.getD t37_b.toNat ((0 : Int), ((0 : Int), ()))).2).1))) (w64 (t37_b + (1 : Int))))))
      ((R32_1 a23 a53 a55cv1 a63 a65c66 N T32_0 m (Sl32b l0 r2 t23_a out6_a r4 fines10_b (w64 (t37_b + (1 : Int))))))))
      (cond (decide (fines10_b > r2)) (chk (small (out6_a.length + 1) 8) ((T32_0 (Sl32a l0 r2 (w64 (t23_a + (1 : Int))) (out6_a ++ ([t23_a] : List Int))))))
      ((T32_0 (Sl32a l0 r2 (w64 (t23_a + (1 : Int))) out6_a)))) := by kernel_rfl
theorem ql32b (a23 : (List (Int × Int × Unit)) → Option (Int)) (a53 : (List (Int × Int × Unit)) → Option (Int)) (a55cv1 : (List (Int × Int × Unit)) → (List Int) → Option (List Int)) (a63 : (List Int) → Int → Option (Bool)) (a65c66 : (List (Int × Int × Unit)) → (List (Int × Int × Unit)) → Option (Int × List (Int × Int × Unit))) (N : Nat) (l0 : List (Int × Int × Unit)) (r2 : Int) (t23_a : Int) (out6_a : List Int) (r4 : List Int) (T32_0 : TS → Option (List Int × Int)) : ∀ (m : Nat) (fines10_b : Int) (t37_b : Int), R32_1 a23 a53 a55cv1 a63 a65c66 N T32_0 m (Sl32b l0 r2 t23_a out6_a r4 fines10_b t37_b) = l32b a23 a53 a55cv1 a63 a65c66 N l0 r2 t23_a out6_a r4 (fun y0 y1 => T32_0 (Sl32a l0 r2 y0 y1)) m fines10_b t37_b
        | 0, _, _ => rfl
        | m + 1, fines10_b, t37_b => by rw [wl32b]; simp only [l32b, ql32b a23 a53 a55cv1 a63 a65c66 N l0 r2 t23_a out6_a r4 T32_0 m]
def l32a (a23 : (List (Int × Int × Unit)) → Option (Int)) (a53 : (List (Int × Int × Unit)) → Option (Int)) (a55cv1 : (List (Int × Int × Unit)) → (List Int) → Option (List Int)) (a63 : (List Int) → Int → Option (Bool)) (a65c66 : (List (Int × Int × Unit)) → (List (Int × Int × Unit)) → Option (Int × List (Int × Int × Unit))) (N : Nat) (l0 : List (Int × Int × Unit)) (r2 : Int) : Nat → Int → (List Int) → Option (List Int × Int)
  | 0, _, _ => none
  | n + 1, t23_a, out6_a => cond (decide (t23_a < (l0.length : Int))) (chk (decide (0 ≤ t23_a ∧ t23_a < (l0.length : Int))) ((a65c66 l0 ([l0.getD t23_a.toNat ((0 : Int), ((0 : Int), ()))] : List (Int × Int × Unit))).bind fun r3 =>
      (a55cv1 l0 ([r3.1] : List Int)).bind fun r4 =>
      (l32b a23 a53 a55cv1 a63 a65c66 N l0 r2 t23_a out6_a r4 (fun y0 y1 => (l32a a23 a53 a55cv1 a63 a65c66 N l0 r2 n y0 y1)) N (0 : Int) (0 : Int))))
      (some (out6_a, (0 : Int)))
theorem wl32a (a23 : (List (Int × Int × Unit)) → Option (Int)) (a53 : (List (Int × Int × Unit)) → Option (Int)) (a55cv1 : (List (Int × Int × Unit)) → (List Int) → Option (List Int)) (a63 : (List Int) → Int → Option (Bool)) (a65c66 : (List (Int × Int × Unit)) → (List (Int × Int × Unit)) → Option (Int × List (Int × Int × Unit))) (N : Nat) (l0 : List (Int × Int × Unit)) (r2 : Int) (m : Nat) (t23_a : Int) (out6_a : List Int) : R32_0 a23 a53 a55cv1 a63 a65c66 N (m + 1) (Sl32a l0 r2 t23_a out6_a) = cond (decide (t23_a < (l0.length : Int))) (chk (decide (0 ≤ t23_a ∧ t23_a < (l0.length : Int))) ((a65c66 l0 ([l0.getD t23_a.toNat ((0 : Int), ((0 : Int), ()))] : List (Int × Int × Unit))).bind fun r3 =>
      (a55cv1 l0 ([r3.1] : List Int)).bind fun r4 =>
      (R32_1 a23 a53 a55cv1 a63 a65c66 N (R32_0 a23 a53 a55cv1 a63 a65c66 N m) N (Sl32b l0 r2 t23_a out6_a r4 (0 : Int) (0 : Int)))))
      (some (out6_a, (0 : Int))) := by kernel_rfl
theorem ql32a (a23 : (List (Int × Int × Unit)) → Option (Int)) (a53 : (List (Int × Int × Unit)) → Option (Int)) (a55cv1 : (List (Int × Int × Unit)) → (List Int) → Option (List Int)) (a63 : (List Int) → Int → Option (Bool)) (a65c66 : (List (Int × Int × Unit)) → (List (Int × Int × Unit)) → Option (Int × List (Int × Int × Unit))) (N : Nat) (l0 : List (Int × Int × Unit)) (r2 : Int) : ∀ (m : Nat) (t23_a : Int) (out6_a : List Int), R32_0 a23 a53 a55cv1 a63 a65c66 N m (Sl32a l0 r2 t23_a out6_a) = l32a a23 a53 a55cv1 a63 a65c66 N l0 r2 m t23_a out6_a
        | 0, _, _ => rfl
        | m + 1, t23_a, out6_a => by rw [wl32a]; simp only [l32a, ql32b, ql32a a23 a53 a55cv1 a63 a65c66 N l0 r2 m]
def m32 (a23 : (List (Int × Int × Unit)) → Option (Int)) (a53 : (List (Int × Int × Unit)) → Option (Int)) (a55cv1 : (List (Int × Int × Unit)) → (List Int) → Option (List Int)) (a63 : (List Int) → Int → Option (Bool)) (a65c66 : (List (Int × Int × Unit)) → (List (Int × Int × Unit)) → Option (Int × List (Int × Int × Unit))) (N : Nat) (l0 : List (Int × Int × Unit)) : Option (List Int × Int) :=
      (a23 l0).bind fun r1 =>
      cond (r1 != (0 : Int)) (some (([] : List Int), r1))
      ((a53 l0).bind fun r2 =>
      (l32a a23 a53 a55cv1 a63 a65c66 N l0 r2 N (0 : Int) ([] : List Int)))
theorem wm32 (a23 : (List (Int × Int × Unit)) → Option (Int)) (a53 : (List (Int × Int × Unit)) → Option (Int)) (a55cv1 : (List (Int × Int × Unit)) → (List Int) → Option (List Int)) (a63 : (List Int) → Int → Option (Bool)) (a65c66 : (List (Int × Int × Unit)) → (List (Int × Int × Unit)) → Option (Int × List (Int × Int × Unit))) (N : Nat) (l0 : List (Int × Int × Unit)) : callF (E32 a23 a53 a55cv1 a63 a65c66) lv32 N en32 c32 (resOf Try.f32) 59 [.dv (.sl (.pair (.int .i64) (.pair (.int .i64) (.unit)))) l0] [] dec32 = (a23 l0).bind fun r1 =>
      cond (r1 != (0 : Int)) (some (([] : List Int), r1))
      ((a53 l0).bind fun r2 =>
      (R32_0 a23 a53 a55cv1 a63 a65c66 N N (Sl32a l0 r2 (0 : Int) ([] : List Int)))) := by kernel_rfl
theorem k32 (a23 : (List (Int × Int × Unit)) → Option (Int)) (a53 : (List (Int × Int × Unit)) → Option (Int)) (a55cv1 : (List (Int × Int × Unit)) → (List Int) → Option (List Int)) (a63 : (List Int) → Int → Option (Bool)) (a65c66 : (List (Int × Int × Unit)) → (List (Int × Int × Unit)) → Option (Int × List (Int × Int × Unit))) (N : Nat) (l0 : List (Int × Int × Unit)) : callF (E32 a23 a53 a55cv1 a63 a65c66) lv32 N en32 c32 (resOf Try.f32) 59 [.dv (.sl (.pair (.int .i64) (.pair (.int .i64) (.unit)))) l0] [] dec32 = m32 a23 a53 a55cv1 a63 a65c66 N l0 := by rw [wm32]; simp only [m32, ql32a]
theorem ok32 (a23 : (List (Int × Int × Unit)) → Option (Int)) (a53 : (List (Int × Int × Unit)) → Option (Int)) (a55cv1 : (List (Int × Int × Unit)) → (List Int) → Option (List Int)) (a63 : (List Int) → Int → Option (Bool)) (a65c66 : (List (Int × Int × Unit)) → (List (Int × Int × Unit)) → Option (Int × List (Int × Int × Unit))) (h23 : FnOk Try.prog 23 (F23 a23)) (h53 : FnOk Try.prog 53 (F53 a53)) (h55cv1 : FnOk Try.prog 55 (F55cv1 a55cv1)) (h63 : FnOk Try.prog 63 (F63 a63)) (h65c66 : FnOk Try.prog 65 (F65c66 a65c66)) (a : (List (Int × Int × Unit)) → Option (List Int × Int)) (h : ∀ l0 r, a l0 = some r → (∃ N, m32 a23 a53 a55cv1 a63 a65c66 N l0 = some r)) : FnOk Try.prog 32 (F32 a) := by
  intro args Of x hx
  simp only [F32] at hx
  split at hx
  · rename_i l0
    obtain ⟨N, hN⟩ := h _ _ hx
    refine lifted (L := [(23, F23 a23), (53, F53 a53), (55, F55cv1 a55cv1), (63, F63 a63), (65, F65c66 a65c66)]) (rc := nrc) (fz := nfz) (fn := Try.f32) (by kernel_rfl) (by kernel_rfl) (by kernel_rfl) (by kernel_rfl) rfl ?_ ((k32 a23 a53 a55cv1 a63 a65c66 N _).trans hN) ?_
    · intro p hp; simp only [List.mem_cons, List.not_mem_nil, or_false] at hp; rcases hp with rfl | rfl | rfl | rfl | rfl
      · exact h23
      · exact h53
      · exact h55cv1
      · exact h63
      · exact h65c66
    · intro l o hd
      simp only [dec32] at hd
      split at hd
      · obtain rfl := Option.some.inj hd; exact ⟨rfl, rfl⟩
      · cases hd
  · cases hx
def E34 (a23 : (List (Int × Int × Unit)) → Option (Int)) (a49 : Int → Int → Int → Option (Bool)) : Env := mkE TI TY [(23, F23 a23), (49, F49 a49)] nrc nfz
noncomputable def c34 : Code := bodyOf Try.f34
def nm34_0 : Norm := ⟨[1, 4, 5, 7, 22, 23, 24], [7], [], []⟩
def nm34_1 : Norm := ⟨[4, 5, 7, 10, 11], [7], [], []⟩
def lv34 : Nat → Option Norm := norms [(8, nm34_0), (16, nm34_1)]
def en34 : End := ⟨[], ⟨[59, 60, 61], [], [], []⟩⟩
def dec34 (l : List TV) (o : List (Nat × TO)) : Option (Int × Int × Int) := match l, o with | [.dv (.int .i64) x0, .dv (.int .i64) x1, .dv (.int .i64) x2], [] => some (x0, x1, x2) | _, _ => none
noncomputable def K34_0 (a23 : (List (Int × Int × Unit)) → Option (Int)) (a49 : Int → Int → Int → Option (Bool)) (N : Nat) : Kont (Int × Int × Int) := kont (E34 a23 a49) lv34 N c34 [1, 1, 1, 1, 0, 1, 0] (fin TI en34 (resOf Try.f34) dec34)
noncomputable def R34_0 (a23 : (List (Int × Int × Unit)) → Option (Int)) (a49 : Int → Int → Int → Option (Bool)) (N : Nat) (m : Nat) : TS → Option (Int × Int × Int) := loopK (den (E34 a23 a49) lv34 N (sub c34 [1, 1, 1, 1, 0, 1, 0, 0])) (TS.norm nm34_0) (K34_0 a23 a49 N) m
noncomputable def K34_1 (a23 : (List (Int × Int × Unit)) → Option (Int)) (a49 : Int → Int → Int → Option (Bool)) (N : Nat) : Kont (Int × Int × Int) := kont (E34 a23 a49) lv34 N c34 [1, 1, 1, 1, 1, 1, 0, 1, 0] (fin TI en34 (resOf Try.f34) dec34)
noncomputable def R34_1 (a23 : (List (Int × Int × Unit)) → Option (Int)) (a49 : Int → Int → Int → Option (Bool)) (N : Nat) (m : Nat) : TS → Option (Int × Int × Int) := loopK (den (E34 a23 a49) lv34 N (sub c34 [1, 1, 1, 1, 1, 1, 0, 1, 0, 0])) (TS.norm nm34_1) (K34_1 a23 a49 N) m
def Sl34b (o7_a : List (List Int)) (count4_b : Int) (day5_b : Int) (reach10_b : Int) (d11_b : Int) : TS := ⟨slots 59 [(4, .dv (.int .i64) count4_b), (5, .dv (.int .i64) day5_b), (7, .ptr 7 0 []), (10, .dv (.int .i64) reach10_b), (11, .dv (.int .i64) d11_b)], [(7, .row (.arr 31 (.int .i64)) o7_a)]⟩
def Sl34a (l0 : List (Int × Int × Unit)) (fine1 : Int) (count4_a : Int) (t24_a : Int) (o7_a : List (List Int)) : TS := ⟨slots 59 [(1, .dv (.int .i64) fine1), (4, .dv (.int .i64) count4_a), (5, .dv (.int .i64) (0 : Int)), (7, .ptr 7 0 []), (22, .dv (.sl (.pair (.int .i64) (.pair (.int .i64) (.unit)))) l0), (23, .dv (.int .i64) (l0.length : Int)), (24, .dv (.int .i64) t24_a)], [(7, .row (.arr 31 (.int .i64)) o7_a)]⟩
def l34b (a23 : (List (Int × Int × Unit)) → Option (Int)) (a49 : Int → Int → Int → Option (Bool)) (N : Nat) (o7_a : List (List Int)) : Nat → Int → Int → Int → Int → Option (Int × Int × Int)
  | 0, _, _, _, _ => none
  | n + 1, count4_b, day5_b, reach10_b, d11_b => cond (decide (d11_b ≤ (30 : Int))) (chk (decide (0 ≤ d11_b ∧ d11_b < (31 : Int))) (cond (decide ((w64 (reach10_b + (w64 ((1 : Int) - ((o7_a.getD 0 ([(0 : Int), (0 : Int), (0 : Int), (0 : Int), (0 : Int), (0 : Int), (0 : Int), (0 : Int), (0 : Int), (0 : Int), (0 : Int), (0 : Int), (0 : Int), (0 : Int), (0 : Int), (0 : Int), (0 : Int), (0 : Int), (0 : Int), (0 : Int), (0 : Int), (0 : Int), (0 : Int), (0 : Int), (0 : Int), (0 : Int), (0 : Int), (0 : Int), (0 : Int), (0 : Int), (0 : Int)] : List Int)).getD d11_b.toNat (0 : Int)))))) < count4_b)) ((l34b a23 a49 N o7_a n (w64 (reach10_b + (w64 ((1 : Int) - ((o7_a.getD 0 ([(0 : Int), (0 : Int), (0 : Int), (0 : Int), (0 : Int), (0 : Int), (0 : Int), (0 : Int), (0 : Int), (0 : Int), (0 : Int), (0 : Int), (0 : Int), (0 : Int), (0 : Int), (0 : Int), (0 : Int), (0 : Int), (0 : Int), (0 : Int), (0 : Int), (0 : Int), (0 : Int), (0 : Int), (0 : Int), (0 : Int), (0 : Int), (0 : Int), (0 : Int), (0 : Int), (0 : Int)] : List Int)).getD d11_b.toNat (0 : Int)))))) d11_b (w64 (reach10_b + (w64 ((1 : Int) - ((o7_a.getD 0 ([(0 : Int), (0 : Int), (0 : Int), (0 : Int), (0 : Int), (0 : Int), (0 : Int), (0 : Int), (0 : Int), (0 : Int), (0 : Int), (0 : Int), (0 : Int), (0 : Int), (0 : Int), (0 : Int), (0 : Int), (0 : Int), (0 : Int), (0 : Int), (0 : Int), (0 : Int), (0 : Int), (0 : Int), (0 : Int), (0 : Int), (0 : Int), (0 : Int), (0 : Int), (0 : Int), (0 : Int)] : List Int)).getD d11_b.toNat (0 : Int)))))) (w64 (d11_b + (1 : Int)))))
      ((l34b a23 a49 N o7_a n count4_b day5_b (w64 (reach10_b + (w64 ((1 : Int) - ((o7_a.getD 0 ([(0 : Int), (0 : Int), (0 : Int), (0 : Int), (0 : Int), (0 : Int), (0 : Int), (0 : Int), (0 : Int), (0 : Int), (0 : Int), (0 : Int), (0 : Int), (0 : Int), (0 : Int), (0 : Int), (0 : Int), (0 : Int), (0 : Int), (0 : Int), (0 : Int), (0 : Int), (0 : Int), (0 : Int), (0 : Int), (0 : Int), (0 : Int), (0 : Int), (0 : Int), (0 : Int), (0 : Int)] : List Int)).getD d11_b.toNat (0 : Int)))))) (w64 (d11_b + (1 : Int)))))))
      (some (count4_b, day5_b, (0 : Int)))
theorem wl34b (a23 : (List (Int × Int × Unit)) → Option (Int)) (a49 : Int → Int → Int → Option (Bool)) (N : Nat) (o7_a : List (List Int)) (m : Nat) (count4_b : Int) (day5_b : Int) (reach10_b : Int) (d11_b : Int) : R34_1 a23 a49 N (m + 1) (Sl34b o7_a count4_b day5_b reach10_b d11_b) = cond (decide (d11_b ≤ (30 : Int))) (chk (decide (0 ≤ d11_b ∧ d11_b < (31 : Int))) (cond (decide ((w64 (reach10_b + (w64 ((1 : Int) - ((o7_a.getD 0 ([(0 : Int), (0 : Int), (0 : Int), (0 : Int), (0 : Int), (0 : Int), (0 : Int), (0 : Int), (0 : Int), (0 : Int), (0 : Int), (0 : Int), (0 : Int), (0 : Int), (0 : Int), (0 : Int), (0 : Int), (0 : Int), (0 : Int), (0 : Int), (0 : Int), (0 : Int), (0 : Int), (0 : Int), (0 : Int), (0 : Int), (0 : Int), (0 : Int), (0 : Int), (0 : Int), (0 : Int)] : List Int)).getD d11_b.toNat (0 : Int)))))) < count4_b)) ((R34_1 a23 a49 N m (Sl34b o7_a (w64 (reach10_b + (w64 ((1 : Int) - ((o7_a.getD 0 ([(0 : Int), (0 : Int), (0 : Int), (0 : Int), (0 : Int), (0 : Int), (0 : Int), (0 : Int), (0 : Int), (0 : Int), (0 : Int), (0 : Int), (0 : Int), (0 : Int), (0 : Int), (0 : Int), (0 : Int), (0 : Int), (0 : Int), (0 : Int), (0 : Int), (0 : Int), (0 : Int), (0 : Int), (0 : Int), (0 : Int), (0 : Int), (0 : Int), (0 : Int), (0 : Int), (0 : Int)] : List Int)).getD d11_b.toNat (0 : Int)))))) d11_b (w64 (reach10_b + (w64 ((1 : Int) - ((o7_a.getD 0 ([(0 : Int), (0 : Int), (0 : Int), (0 : Int), (0 : Int), (0 : Int), (0 : Int), (0 : Int), (0 : Int), (0 : Int), (0 : Int), (0 : Int), (0 : Int), (0 : Int), (0 : Int), (0 : Int), (0 : Int), (0 : Int), (0 : Int), (0 : Int), (0 : Int), (0 : Int), (0 : Int), (0 : Int), (0 : Int), (0 : Int), (0 : Int), (0 : Int), (0 : Int), (0 : Int), (0 : Int)] : List Int)).getD d11_b.toNat (0 : Int)))))) (w64 (d11_b + (1 : Int))))))
      ((R34_1 a23 a49 N m (Sl34b o7_a count4_b day5_b (w64 (reach10_b + (w64 ((1 : Int) - ((o7_a.getD 0 ([(0 : Int), (0 : Int), (0 : Int), (0 : Int), (0 : Int), (0 : Int), (0 : Int), (0 : Int), (0 : Int), (0 : Int), (0 : Int), (0 : Int), (0 : Int), (0 : Int), (0 : Int), (0 : Int), (0 : Int), (0 : Int), (0 : Int), (0 : Int), (0 : Int), (0 : Int), (0 : Int), (0 : Int), (0 : Int), (0 : Int), (0 : Int), (0 : Int), (0 : Int), (0 : Int), (0 : Int)] : List Int)).getD d11_b.toNat (0 : Int)))))) (w64 (d11_b + (1 : Int))))))))
      (some (count4_b, day5_b, (0 : Int))) := by kernel_rfl
theorem ql34b (a23 : (List (Int × Int × Unit)) → Option (Int)) (a49 : Int → Int → Int → Option (Bool)) (N : Nat) (o7_a : List (List Int)) : ∀ (m : Nat) (count4_b : Int) (day5_b : Int) (reach10_b : Int) (d11_b : Int), R34_1 a23 a49 N m (Sl34b o7_a count4_b day5_b reach10_b d11_b) = l34b a23 a49 N o7_a m count4_b day5_b reach10_b d11_b
        | 0, _, _, _, _ => rfl
        | m + 1, count4_b, day5_b, reach10_b, d11_b => by rw [wl34b]; simp only [l34b, ql34b a23 a49 N o7_a m]
def l34a (a23 : (List (Int × Int × Unit)) → Option (Int)) (a49 : Int → Int → Int → Option (Bool)) (N : Nat) (l0 : List (Int × Int × Unit)) (fine1 : Int) : Nat → Int → Int → (List (List Int)) → Option (Int × Int × Int)
  | 0, _, _, _ => none
  | n + 1, count4_a, t24_a, o7_a => cond (decide (t24_a < (l0.length : Int))) (chk (decide (0 ≤ t24_a ∧ t24_a < (l0.length : Int))) (cond (decide ((((l0.getD t24_a.toNat ((0 : Int), ((0 : Int), ()))).2).1) ≥ fine1)) (chk (decide (0 ≤ (l0.getD t24_a.toNat ((0 : Int), ((0 : Int), ()))).1 ∧ (l0.getD t24_a.toNat ((0 : Int), ((0 : Int), ()))).1 < (31 : Int))) (chk (decide (0 ≤ (l0.getD t24_a.toNat ((0 : Int), ((0 : Int), ()))).1 ∧ (l0.getD t24_a.toNat ((0 : Int), ((0 : Int), ()))).1 < (31 : Int))) (chk ((decide (((l0.getD t24_a.toNat ((0 : Int), ((0 : Int), ()))).1).toNat < (o7_a.getD 0 ([(0 : Int), (0 : Int), (0 : Int), (0 : Int), (0 : Int), (0 : Int), (0 : Int), (0 : Int), (0 : Int), (0 : Int), (0 : Int), (0 : Int), (0 : Int), (0 : Int), (0 : Int), (0 : Int), (0 : Int), (0 : Int), (0 : Int), (0 : Int), (0 : Int), (0 : Int), (0 : Int), (0 : Int), (0 : Int), (0 : Int), (0 : Int), (0 : Int), (0 : Int), (0 : Int), (0 : Int)] : List Int)).length)) && (true)) ((l34a a23 a49 N l0 fine1 n (w64 (count4_a + (1 : Int))) (w64 (t24_a + (1 : Int))) (o7_a.set 0 ((o7_a.getD 0 ([(0 : Int), (0 : Int), (0 : Int), (0 : Int), (0 : Int), (0 : Int), (0 : Int), (0 : Int), (0 : Int), (0 : Int), (0 : Int), (0 : Int), (0 : Int), (0 : Int), (0 : Int), (0 : Int), (0 : Int), (0 : Int), (0 : Int), (0 : Int), (0 : Int), (0 : Int), (0 : Int), (0 : Int), (0 : Int), (0 : Int), (0 : Int), (0 : Int), (0 : Int), (0 : Int), (0 : Int)] : List Int)).set (((l0.getD t24_a.toNat ((0 : Int), ((0 : Int), ()))).1).toNat) (w64 (((o7_a.getD 0 ([(0 : Int), (0 : Int), (0 : Int), (0 : Int), (0 : Int), (0 : Int), (0 : Int), (0 : Int), (0 : Int), (0 : Int), (0 : Int), (0 : Int), (0 : Int), (0 : Int), (0 : Int), (0 : Int), (0 : Int), (0 : Int), (0 : Int), (0 : Int), (0 : Int), (0 : Int), (0 : Int), (0 : Int), (0 : Int), (0 : Int), (0 : Int), (0 : Int), (0 : Int), (0 : Int), (0 : Int)] : List Int)).getD (((l0.getD t24_a.toNat ((0 : Int), ((0 : Int), ()))).1).toNat) (0 : Int)) + (1 : Int))))))))))
      ((l34a a23 a49 N l0 fine1 n count4_a (w64 (t24_a + (1 : Int))) o7_a))))
      ((l34b a23 a49 N o7_a N count4_a (0 : Int) count4_a (1 : Int)))
theorem wl34a (a23 : (List (Int × Int × Unit)) → Option (Int)) (a49 : Int → Int → Int → Option (Bool)) (N : Nat) (l0 : List (Int × Int × Unit)) (fine1 : Int) (m : Nat) (count4_a : Int) (t24_a : Int) (o7_a : List (List Int)) : R34_0 a23 a49 N (m + 1) (Sl34a l0 fine1 count4_a t24_a o7_a) = cond (decide (t24_a < (l0.length : Int))) (chk (decide (0 ≤ t24_a ∧ t24_a < (l0.length : Int))) (cond (decide ((((l0.getD t24_a.toNat ((0 : Int), ((0 : Int), ()))).2).1) ≥ fine1)) (chk (decide (0 ≤ (l0.getD t24_a.toNat ((0 : Int), ((0 : Int), ()))).1 ∧ (l0.getD t24_a.toNat ((0 : Int), ((0 : Int), ()))).1 < (31 : Int))) (chk (decide (0 ≤ (l0.getD t24_a.toNat ((0 : Int), ((0 : Int), ()))).1 ∧ (l0.getD t24_a.toNat ((0 : Int), ((0 : Int), ()))).1 < (31 : Int))) (chk ((decide (((l0.getD t24_a.toNat ((0 : Int), ((0 : Int), ()))).1).toNat < (o7_a.getD 0 ([(0 : Int), (0 : Int), (0 : Int), (0 : Int), (0 : Int), (0 : Int), (0 : Int), (0 : Int), (0 : Int), (0 : Int), (0 : Int), (0 : Int), (0 : Int), (0 : Int), (0 : Int), (0 : Int), (0 : Int), (0 : Int), (0 : Int), (0 : Int), (0 : Int), (0 : Int), (0 : Int), (0 : Int), (0 : Int), (0 : Int), (0 : Int), (0 : Int), (0 : Int), (0 : Int), (0 : Int)] : List Int)).length)) && (true)) ((R34_0 a23 a49 N m (Sl34a l0 fine1 (w64 (count4_a + (1 : Int))) (w64 (t24_a + (1 : Int))) (o7_a.set 0 ((o7_a.getD 0 ([(0 : Int), (0 : Int), (0 : Int), (0 : Int), (0 : Int), (0 : Int), (0 : Int), (0 : Int), (0 : Int), (0 : Int), (0 : Int), (0 : Int), (0 : Int), (0 : Int), (0 : Int), (0 : Int), (0 : Int), (0 : Int), (0 : Int), (0 : Int), (0 : Int), (0 : Int), (0 : Int), (0 : Int), (0 : Int), (0 : Int), (0 : Int), (0 : Int), (0 : Int), (0 : Int), (0 : Int)] : List Int)).set (((l0.getD t24_a.toNat ((0 : Int), ((0 : Int), ()))).1).toNat) (w64 (((o7_a.getD 0 ([(0 : Int), (0 : Int), (0 : Int), (0 : Int), (0 : Int), (0 : Int), (0 : Int), (0 : Int), (0 : Int), (0 : Int), (0 : Int), (0 : Int), (0 : Int), (0 : Int), (0 : Int), (0 : Int), (0 : Int), (0 : Int), (0 : Int), (0 : Int), (0 : Int), (0 : Int), (0 : Int), (0 : Int), (0 : Int), (0 : Int), (0 : Int), (0 : Int), (0 : Int), (0 : Int), (0 : Int)] : List Int)).getD (((l0.getD t24_a.toNat ((0 : Int), ((0 : Int), ()))).1).toNat) (0 : Int)) + (1 : Int)))))))))))
      ((R34_0 a23 a49 N m (Sl34a l0 fine1 count4_a (w64 (t24_a + (1 : Int))) o7_a)))))
      ((R34_1 a23 a49 N N (Sl34b o7_a count4_a (0 : Int) count4_a (1 : Int)))) := by kernel_rfl
theorem ql34a (a23 : (List (Int × Int × Unit)) → Option (Int)) (a49 : Int → Int → Int → Option (Bool)) (N : Nat) (l0 : List (Int × Int × Unit)) (fine1 : Int) : ∀ (m : Nat) (count4_a : Int) (t24_a : Int) (o7_a : List (List Int)), R34_0 a23 a49 N m (Sl34a l0 fine1 count4_a t24_a o7_a) = l34a a23 a49 N l0 fine1 m count4_a t24_a o7_a
        | 0, _, _, _ => rfl
        | m + 1, count4_a, t24_a, o7_a => by rw [wl34a]; simp only [l34a, ql34b, ql34a a23 a49 N l0 fine1 m]
def m34 (a23 : (List (Int × Int × Unit)) → Option (Int)) (a49 : Int → Int → Int → Option (Bool)) (N : Nat) (l0 : List (Int × Int × Unit)) (fine1 : Int) : Option (Int × Int × Int) :=
      (a23 l0).bind fun r1 =>
      cond (r1 != (0 : Int)) (some ((0 : Int), (0 : Int), r1))
      ((a49 (0 : Int) fine1 (10000 : Int)).bind fun r2 =>
      cond (!r2) (some ((0 : Int), (0 : Int), (4 : Int)))
      ((l34a a23 a49 N l0 fine1 N (0 : Int) (0 : Int) ([([(0 : Int), (0 : Int), (0 : Int), (0 : Int), (0 : Int), (0 : Int), (0 : Int), (0 : Int), (0 : Int), (0 : Int), (0 : Int), (0 : Int), (0 : Int), (0 : Int), (0 : Int), (0 : Int), (0 : Int), (0 : Int), (0 : Int), (0 : Int), (0 : Int), (0 : Int), (0 : Int), (0 : Int), (0 : Int), (0 : Int), (0 : Int), (0 : Int), (0 : Int), (0 : Int), (0 : Int)] : List Int)] : List (List Int)))))
theorem wm34 (a23 : (List (Int × Int × Unit)) → Option (Int)) (a49 : Int → Int → Int → Option (Bool)) (N : Nat) (l0 : List (Int × Int × Unit)) (fine1 : Int) : callF (E34 a23 a49) lv34 N en34 c34 (resOf Try.f34) 57 [.dv (.sl (.pair (.int .i64) (.pair (.int .i64) (.unit)))) l0, .dv (.int .i64) fine1] [] dec34 = (a23 l0).bind fun r1 =>
      cond (r1 != (0 : Int)) (some ((0 : Int), (0 : Int), r1))
      ((a49 (0 : Int) fine1 (10000 : Int)).bind fun r2 =>
      cond (!r2) (some ((0 : Int), (0 : Int), (4 : Int)))
      ((R34_0 a23 a49 N N (Sl34a l0 fine1 (0 : Int) (0 : Int) ([([(0 : Int), (0 : Int), (0 : Int), (0 : Int), (0 : Int), (0 : Int), (0 : Int), (0 : Int), (0 : Int), (0 : Int), (0 : Int), (0 : Int), (0 : Int), (0 : Int), (0 : Int), (0 : Int), (0 : Int), (0 : Int), (0 : Int), (0 : Int), (0 : Int), (0 : Int), (0 : Int), (0 : Int), (0 : Int), (0 : Int), (0 : Int), (0 : Int), (0 : Int), (0 : Int), (0 : Int)] : List Int)] : List (List Int)))))) := by kernel_rfl
theorem k34 (a23 : (List (Int × Int × Unit)) → Option (Int)) (a49 : Int → Int → Int → Option (Bool)) (N : Nat) (l0 : List (Int × Int × Unit)) (fine1 : Int) : callF (E34 a23 a49) lv34 N en34 c34 (resOf Try.f34) 57 [.dv (.sl (.pair (.int .i64) (.pair (.int .i64) (.unit)))) l0, .dv (.int .i64) fine1] [] dec34 = m34 a23 a49 N l0 fine1 := by rw [wm34]; simp only [m34, ql34a]
theorem ok34 (a23 : (List (Int × Int × Unit)) → Option (Int)) (a49 : Int → Int → Int → Option (Bool)) (h23 : FnOk Try.prog 23 (F23 a23)) (h49 : FnOk Try.prog 49 (F49 a49)) (a : (List (Int × Int × Unit)) → Int → Option (Int × Int × Int)) (h : ∀ l0 fine1 r, a l0 fine1 = some r → (∃ N, m34 a23 a49 N l0 fine1 = some r)) : FnOk Try.prog 34 (F34 a) := by
  intro args Of x hx
  simp only [F34] at hx
  split at hx
  · rename_i l0 fine1
    obtain ⟨N, hN⟩ := h _ _ _ hx
    refine lifted (L := [(23, F23 a23), (49, F49 a49)]) (rc := nrc) (fz := nfz) (fn := Try.f34) (by kernel_rfl) (by kernel_rfl) (by kernel_rfl) (by kernel_rfl) rfl ?_ ((k34 a23 a49 N _ _).trans hN) ?_
    · intro p hp; simp only [List.mem_cons, List.not_mem_nil, or_false] at hp; rcases hp with rfl | rfl
      · exact h23
      · exact h49
    · intro l o hd
      simp only [dec34] at hd
      split at hd
      · obtain rfl := Option.some.inj hd; exact ⟨rfl, rfl⟩
      · cases hd
  · cases hx
def E36 (a23 : (List (Int × Int × Unit)) → Option (Int)) (a49 : Int → Int → Int → Option (Bool)) (a53 : (List (Int × Int × Unit)) → Option (Int)) : Env := mkE TI TY [(23, F23 a23), (49, F49 a49), (53, F53 a53)] nrc nfz
noncomputable def c36 : Code := bodyOf Try.f36
def nm36_0 : Norm := ⟨[1, 20, 21, 22], [], [(.slot 7, 1007, .pair (.int .i64) (.pair (.int .i64) (.unit)))], []⟩
def lv36 : Nat → Option Norm := norms [(8, nm36_0)]
def en36 : End := ⟨[], ⟨[39, 40], [], [], []⟩⟩
def dec36 (l : List TV) (o : List (Nat × TO)) : Option (Int × Int) := match l, o with | [.dv (.int .i64) x0, .dv (.int .i64) x1], [] => some (x0, x1) | _, _ => none
noncomputable def K36_0 (a23 : (List (Int × Int × Unit)) → Option (Int)) (a49 : Int → Int → Int → Option (Bool)) (a53 : (List (Int × Int × Unit)) → Option (Int)) (N : Nat) : Kont (Int × Int) := kont (E36 a23 a49 a53) lv36 N c36 [1, 1, 1, 1, 0, 1, 0] (fin TI en36 (resOf Try.f36) dec36)
noncomputable def R36_0 (a23 : (List (Int × Int × Unit)) → Option (Int)) (a49 : Int → Int → Int → Option (Bool)) (a53 : (List (Int × Int × Unit)) → Option (Int)) (N : Nat) (m : Nat) : TS → Option (Int × Int) := loopK (den (E36 a23 a49 a53) lv36 N (sub c36 [1, 1, 1, 1, 0, 1, 0, 0])) (TS.norm nm36_0) (K36_0 a23 a49 a53 N) m
def Sl36a (l0 : List (Int × Int × Unit)) (days1 : Int) (t22_a : Int) (moved7_a : List (Int × Int × Unit)) : TS := ⟨slots 39 [(1, .dv (.int .i64) days1), (7, .row 1007), (20, .dv (.sl (.pair (.int .i64) (.pair (.int .i64) (.unit)))) l0), (21, .dv (.int .i64) (l0.length : Int)), (22, .dv (.int .i64) t22_a)], [(1007, .row (.pair (.int .i64) (.pair (.int .i64) (.unit))) moved7_a)]⟩
def l36a (a23 : (List (Int × Int × Unit)) → Option (Int)) (a49 : Int → Int → Int → Option (Bool)) (a53 : (List (Int × Int × Unit)) → Option (Int)) (N : Nat) (l0 : List (Int × Int × Unit)) (days1 : Int) : Nat → Int → (List (Int × Int × Unit)) → Option (Int × Int)
  | 0, _, _ => none
  | n + 1, t22_a, moved7_a => cond (decide (t22_a < (l0.length : Int))) (chk (decide (0 ≤ t22_a ∧ t22_a < (l0.length : Int))) (chk (small (moved7_a.length + 1) 16) ((l36a a23 a49 a53 N l0 days1 n (w64 (t22_a + (1 : Int))) (moved7_a ++ ([(w64 (((l0.getD t22_a.toNat ((0 : Int), ((0 : Int), ()))).1) + days1), (((l0.getD t22_a.toNat ((0 : Int), ((0 : Int), ()))).2).1, ()))] : List (Int × Int × Unit)))))))
      ((a53 moved7_a).bind fun r3 =>
      some (r3, (0 : Int)))
theorem wl36a (a23 : (List (Int × Int × Unit)) → Option (Int)) (a49 : Int → Int → Int → Option (Bool)) (a53 : (List (Int × Int × Unit)) → Option (Int)) (N : Nat) (l0 : List (Int × Int × Unit)) (days1 : Int) (m : Nat) (t22_a : Int) (moved7_a : List (Int × Int × Unit)) : R36_0 a23 a49 a53 N (m + 1) (Sl36a l0 days1 t22_a moved7_a) = cond (decide (t22_a < (l0.length : Int))) (chk (decide (0 ≤ t22_a ∧ t22_a < (l0.length : Int))) (chk (small (moved7_a.length + 1) 16) ((R36_0 a23 a49 a53 N m (Sl36a l0 days1 (w64 (t22_a + (1 : Int))) (moved7_a ++ ([(w64 (((l0.getD t22_a.toNat ((0 : Int), ((0 : Int), ()))).1) + days1), (((l0.getD t22_a.toNat ((0 : Int), ((0 : Int), ()))).2).1, ()))] : List (Int × Int × Unit))))))))
      ((a53 moved7_a).bind fun r3 =>
      some (r3, (0 : Int))) := by kernel_rfl
theorem ql36a (a23 : (List (Int × Int × Unit)) → Option (Int)) (a49 : Int → Int → Int → Option (Bool)) (a53 : (List (Int × Int × Unit)) → Option (Int)) (N : Nat) (l0 : List (Int × Int × Unit)) (days1 : Int) : ∀ (m : Nat) (t22_a : Int) (moved7_a : List (Int × Int × Unit)), R36_0 a23 a49 a53 N m (Sl36a l0 days1 t22_a moved7_a) = l36a a23 a49 a53 N l0 days1 m t22_a moved7_a
        | 0, _, _ => rfl
        | m + 1, t22_a, moved7_a => by rw [wl36a]; simp only [l36a, ql36a a23 a49 a53 N l0 days1 m]
def m36 (a23 : (List (Int × Int × Unit)) → Option (Int)) (a49 : Int → Int → Int → Option (Bool)) (a53 : (List (Int × Int × Unit)) → Option (Int)) (N : Nat) (l0 : List (Int × Int × Unit)) (days1 : Int) : Option (Int × Int) :=
      (a23 l0).bind fun r1 =>
      cond (r1 != (0 : Int)) (some ((0 : Int), r1))
      ((a49 (0 : Int) days1 (30 : Int)).bind fun r2 =>
      cond (!r2) (some ((0 : Int), (4 : Int)))
      ((l36a a23 a49 a53 N l0 days1 N (0 : Int) ([] : List (Int × Int × Unit)))))
theorem wm36 (a23 : (List (Int × Int × Unit)) → Option (Int)) (a49 : Int → Int → Int → Option (Bool)) (a53 : (List (Int × Int × Unit)) → Option (Int)) (N : Nat) (l0 : List (Int × Int × Unit)) (days1 : Int) : callF (E36 a23 a49 a53) lv36 N en36 c36 (resOf Try.f36) 37 [.dv (.sl (.pair (.int .i64) (.pair (.int .i64) (.unit)))) l0, .dv (.int .i64) days1] [] dec36 = (a23 l0).bind fun r1 =>
      cond (r1 != (0 : Int)) (some ((0 : Int), r1))
      ((a49 (0 : Int) days1 (30 : Int)).bind fun r2 =>
      cond (!r2) (some ((0 : Int), (4 : Int)))
      ((R36_0 a23 a49 a53 N N (Sl36a l0 days1 (0 : Int) ([] : List (Int × Int × Unit)))))) := by kernel_rfl
theorem k36 (a23 : (List (Int × Int × Unit)) → Option (Int)) (a49 : Int → Int → Int → Option (Bool)) (a53 : (List (Int × Int × Unit)) → Option (Int)) (N : Nat) (l0 : List (Int × Int × Unit)) (days1 : Int) : callF (E36 a23 a49 a53) lv36 N en36 c36 (resOf Try.f36) 37 [.dv (.sl (.pair (.int .i64) (.pair (.int .i64) (.unit)))) l0, .dv (.int .i64) days1] [] dec36 = m36 a23 a49 a53 N l0 days1 := by rw [wm36]; simp only [m36, ql36a]
theorem ok36 (a23 : (List (Int × Int × Unit)) → Option (Int)) (a49 : Int → Int → Int → Option (Bool)) (a53 : (List (Int × Int × Unit)) → Option (Int)) (h23 : FnOk Try.prog 23 (F23 a23)) (h49 : FnOk Try.prog 49 (F49 a49)) (h53 : FnOk Try.prog 53 (F53 a53)) (a : (List (Int × Int × Unit)) → Int → Option (Int × Int)) (h : ∀ l0 days1 r, a l0 days1 = some r → (∃ N, m36 a23 a49 a53 N l0 days1 = some r)) : FnOk Try.prog 36 (F36 a) := by
  intro args Of x hx
  simp only [F36] at hx
  split at hx
  · rename_i l0 days1
    obtain ⟨N, hN⟩ := h _ _ _ hx
    refine lifted (L := [(23, F23 a23), (49, F49 a49), (53, F53 a53)]) (rc := nrc) (fz := nfz) (fn := Try.f36) (by kernel_rfl) (by kernel_rfl) (by kernel_rfl) (by kernel_rfl) rfl ?_ ((k36 a23 a49 a53 N _ _).trans hN) ?_
    · intro p hp; simp only [List.mem_cons, List.not_mem_nil, or_false] at hp; rcases hp with rfl | rfl | rfl
      · exact h23
      · exact h49
      · exact h53
    · intro l o hd
      simp only [dec36] at hd
      split at hd
      · obtain rfl := Option.some.inj hd; exact ⟨rfl, rfl⟩
      · cases hd
  · cases hx
def E38 (a23 : (List (Int × Int × Unit)) → Option (Int)) (a49 : Int → Int → Int → Option (Bool)) (a53 : (List (Int × Int × Unit)) → Option (Int)) (a64 : (List (Int × Int × Unit)) → Int → Option (List (Int × Int × Unit))) : Env := mkE TI TY [(23, F23 a23), (49, F49 a49), (53, F53 a53), (64, F64 a64)] nrc nfz
noncomputable def c38 : Code := bodyOf Try.f38
def lv38 : Nat → Option Norm := norms []
def en38 : End := ⟨[], ⟨[27, 28], [], [], []⟩⟩
def dec38 (l : List TV) (o : List (Nat × TO)) : Option (Int × Int) := match l, o with | [.dv (.int .i64) x0, .dv (.int .i64) x1], [] => some (x0, x1) | _, _ => none
def m38 (a23 : (List (Int × Int × Unit)) → Option (Int)) (a49 : Int → Int → Int → Option (Bool)) (a53 : (List (Int × Int × Unit)) → Option (Int)) (a64 : (List (Int × Int × Unit)) → Int → Option (List (Int × Int × Unit))) (N : Nat) (l0 : List (Int × Int × Unit)) (order1 : Int) : Option (Int × Int) :=
      (a23 l0).bind fun r1 =>
      cond (r1 != (0 : Int)) (some ((0 : Int), r1))
      ((a49 (0 : Int) order1 (w64 ((l0.length : Int) - (1 : Int)))).bind fun r2 =>
      cond (!r2) (some ((0 : Int), (5 : Int)))
      ((a53 l0).bind fun r3 =>
      (a64 l0 order1).bind fun r4 =>
      (a53 r4).bind fun r5 =>
      some (w64 (r3 - r5), (0 : Int))))
theorem k38 (a23 : (List (Int × Int × Unit)) → Option (Int)) (a49 : Int → Int → Int → Option (Bool)) (a53 : (List (Int × Int × Unit)) → Option (Int)) (a64 : (List (Int × Int × Unit)) → Int → Option (List (Int × Int × Unit))) (N : Nat) (l0 : List (Int × Int × Unit)) (order1 : Int) : callF (E38 a23 a49 a53 a64) lv38 N en38 c38 (resOf Try.f38) 25 [.dv (.sl (.pair (.int .i64) (.pair (.int .i64) (.unit)))) l0, .dv (.int .i64) order1] [] dec38 = m38 a23 a49 a53 a64 N l0 order1 := by kernel_rfl
theorem ok38 (a23 : (List (Int × Int × Unit)) → Option (Int)) (a49 : Int → Int → Int → Option (Bool)) (a53 : (List (Int × Int × Unit)) → Option (Int)) (a64 : (List (Int × Int × Unit)) → Int → Option (List (Int × Int × Unit))) (h23 : FnOk Try.prog 23 (F23 a23)) (h49 : FnOk Try.prog 49 (F49 a49)) (h53 : FnOk Try.prog 53 (F53 a53)) (h64 : FnOk Try.prog 64 (F64 a64)) (a : (List (Int × Int × Unit)) → Int → Option (Int × Int)) (h : ∀ l0 order1 r, a l0 order1 = some r → (∃ N, m38 a23 a49 a53 a64 N l0 order1 = some r)) : FnOk Try.prog 38 (F38 a) := by
  intro args Of x hx
  simp only [F38] at hx
  split at hx
  · rename_i l0 order1
    obtain ⟨N, hN⟩ := h _ _ _ hx
    refine lifted (L := [(23, F23 a23), (49, F49 a49), (53, F53 a53), (64, F64 a64)]) (rc := nrc) (fz := nfz) (fn := Try.f38) (by kernel_rfl) (by kernel_rfl) (by kernel_rfl) (by kernel_rfl) rfl ?_ ((k38 a23 a49 a53 a64 N _ _).trans hN) ?_
    · intro p hp; simp only [List.mem_cons, List.not_mem_nil, or_false] at hp; rcases hp with rfl | rfl | rfl | rfl
      · exact h23
      · exact h49
      · exact h53
      · exact h64
    · intro l o hd
      simp only [dec38] at hd
      split at hd
      · obtain rfl := Option.some.inj hd; exact ⟨rfl, rfl⟩
      · cases hd
  · cases hx
def E67 : Env := mkE TI TY [] nrc nfz
noncomputable def c67 : Code := bodyOf Try.f67
def nm67_0 : Norm := ⟨[0, 4], [], [(.slot 3, 1003, .pair (.int .i64) (.pair (.int .i64) (.unit)))], []⟩
def lv67 : Nat → Option Norm := norms [(3, nm67_0)]
def en67 : End := ⟨[(26, .sl (.pair (.int .i64) (.pair (.int .i64) (.unit))))], ⟨[26], [], [], []⟩⟩
def dec67 (l : List TV) (o : List (Nat × TO)) : Option (List (Int × Int × Unit)) := match l, o with | [.dv (.sl (.pair (.int .i64) (.pair (.int .i64) (.unit)))) x0], [] => some (x0) | _, _ => none
noncomputable def K67_0 (N : Nat) : Kont (List (Int × Int × Unit)) := kont (E67) lv67 N c67 [1, 1, 0, 1, 0] (fin TI en67 (resOf Try.f67) dec67)
noncomputable def R67_0 (N : Nat) (m : Nat) : TS → Option (List (Int × Int × Unit)) := loopK (den (E67) lv67 N (sub c67 [1, 1, 0, 1, 0, 0])) (TS.norm nm67_0) (K67_0 N) m
def Sl67a (l0 : List Int) (i4_a : Int) (out3_a : List (Int × Int × Unit)) : TS := ⟨slots 26 [(0, .dv (.sl (.int .i64)) l0), (3, .row 1003), (4, .dv (.int .i64) i4_a)], [(1003, .row (.pair (.int .i64) (.pair (.int .i64) (.unit))) out3_a)]⟩
def l67a (N : Nat) (l0 : List Int) : Nat → Int → (List (Int × Int × Unit)) → Option (List (Int × Int × Unit))
  | 0, _, _ => none
  | n + 1, i4_a, out3_a => cond (decide ((w64 (i4_a + (1 : Int))) < (l0.length : Int))) (chk (decide (0 ≤ i4_a ∧ i4_a < (l0.length : Int))) (chk (decide (0 ≤ w64 (i4_a + (1 : Int)) ∧ w64 (i4_a + (1 : Int)) < (l0.length : Int))) (chk (small (out3_a.length + 1) 16) ((l67a N l0 n (w64 (i4_a + (2 : Int))) (out3_a ++ ([(l0.getD i4_a.toNat (0 : Int), (l0.getD ((w64 (i4_a + (1 : Int))).toNat) (0 : Int), ()))] : List (Int × Int × Unit))))))))
      (some out3_a)
theorem wl67a (N : Nat) (l0 : List Int) (m : Nat) (i4_a : Int) (out3_a : List (Int × Int × Unit)) : R67_0 N (m + 1) (Sl67a l0 i4_a out3_a) = cond (decide ((w64 (i4_a + (1 : Int))) < (l0.length : Int))) (chk (decide (0 ≤ i4_a ∧ i4_a < (l0.length : Int))) (chk (decide (0 ≤ w64 (i4_a + (1 : Int)) ∧ w64 (i4_a + (1 : Int)) < (l0.length : Int))) (chk (small (out3_a.length + 1) 16) ((R67_0 N m (Sl67a l0 (w64 (i4_a + (2 : Int))) (out3_a ++ ([(l0.getD i4_a.toNat (0 : Int), (l0.getD ((w64 (i4_a + (1 : Int))).toNat) (0 : Int), ()))] : List (Int × Int × Unit)))))))))
      (some out3_a) := by kernel_rfl
theorem ql67a (N : Nat) (l0 : List Int) : ∀ (m : Nat) (i4_a : Int) (out3_a : List (Int × Int × Unit)), R67_0 N m (Sl67a l0 i4_a out3_a) = l67a N l0 m i4_a out3_a
        | 0, _, _ => rfl
        | m + 1, i4_a, out3_a => by rw [wl67a]; simp only [l67a, ql67a N l0 m]
def m67 (N : Nat) (l0 : List Int) : Option (List (Int × Int × Unit)) :=
      (l67a N l0 N (0 : Int) ([] : List (Int × Int × Unit)))
theorem wm67 (N : Nat) (l0 : List Int) : callF (E67) lv67 N en67 c67 (resOf Try.f67) 25 [.dv (.sl (.int .i64)) l0] [] dec67 = (R67_0 N N (Sl67a l0 (0 : Int) ([] : List (Int × Int × Unit)))) := by kernel_rfl
theorem k67 (N : Nat) (l0 : List Int) : callF (E67) lv67 N en67 c67 (resOf Try.f67) 25 [.dv (.sl (.int .i64)) l0] [] dec67 = m67 N l0 := by rw [wm67]; simp only [m67, ql67a]
theorem ok67 (a : (List Int) → Option (List (Int × Int × Unit))) (h : ∀ l0 r, a l0 = some r → (∃ N, m67 N l0 = some r)) : FnOk Try.prog 67 (F67 a) := by
  intro args Of x hx
  simp only [F67] at hx
  split at hx
  · rename_i l0
    obtain ⟨N, hN⟩ := h _ _ hx
    refine lifted (L := []) (rc := nrc) (fz := nfz) (fn := Try.f67) (by kernel_rfl) (by kernel_rfl) (by kernel_rfl) (by kernel_rfl) rfl ?_ ((k67 N _).trans hN) ?_
    · intro p hp; cases hp
    · intro l o hd
      simp only [dec67] at hd
      split at hd
      · obtain rfl := Option.some.inj hd; exact ⟨rfl, rfl⟩
      · cases hd
  · cases hx
def E47 (a67 : (List Int) → Option (List (Int × Int × Unit))) : Env := mkE TI TY [(67, F67 a67)] nrc nfz
noncomputable def c47 : Code := bodyOf Try.f47
def lv47 : Nat → Option Norm := norms []
def en47 : End := ⟨[(3, .sl (.pair (.int .i64) (.pair (.int .i64) (.unit))))], ⟨[3], [], [], []⟩⟩
def dec47 (l : List TV) (o : List (Nat × TO)) : Option (List (Int × Int × Unit)) := match l, o with | [.dv (.sl (.pair (.int .i64) (.pair (.int .i64) (.unit)))) x0], [] => some (x0) | _, _ => none
def m47 (a67 : (List Int) → Option (List (Int × Int × Unit))) (N : Nat) : Option (List (Int × Int × Unit)) :=
      (a67 ([(1 : Int), (5 : Int), (1 : Int), (8 : Int), (2 : Int), (3 : Int), (4 : Int), (2 : Int), (2 : Int), (6 : Int)] : List Int)).bind fun r1 =>
      some r1
theorem k47 (a67 : (List Int) → Option (List (Int × Int × Unit))) (N : Nat) : callF (E47 a67) lv47 N en47 c47 (resOf Try.f47) 3 [] [] dec47 = m47 a67 N := by kernel_rfl
theorem ok47 (a67 : (List Int) → Option (List (Int × Int × Unit))) (h67 : FnOk Try.prog 67 (F67 a67)) (a : Option (List (Int × Int × Unit))) (h : ∀ r, a = some r → (∃ N, m47 a67 N = some r)) : FnOk Try.prog 47 (F47 a) := by
  intro args Of x hx
  simp only [F47] at hx
  split at hx
  · skip
    obtain ⟨N, hN⟩ := h _ hx
    refine lifted (L := [(67, F67 a67)]) (rc := nrc) (fz := nfz) (fn := Try.f47) (by kernel_rfl) (by kernel_rfl) (by kernel_rfl) (by kernel_rfl) rfl ?_ ((k47 a67 N).trans hN) ?_
    · intro p hp; simp only [List.mem_cons, List.not_mem_nil, or_false] at hp; rcases hp with rfl; exact h67
    · intro l o hd
      simp only [dec47] at hd
      split at hd
      · obtain rfl := Option.some.inj hd; exact ⟨rfl, rfl⟩
      · cases hd
  · cases hx
def E48 : Env := mkE TI TY [] nrc nfz
noncomputable def c48 : Code := bodyOf Try.f48
def lv48 : Nat → Option Norm := norms []
def en48 : End := ⟨[(4, .sl (.int .i64))], ⟨[4], [], [], []⟩⟩
def dec48 (l : List TV) (o : List (Nat × TO)) : Option (List Int) := match l, o with | [.dv (.sl (.int .i64)) x0], [] => some (x0) | _, _ => none
def m48 (N : Nat) (l0 : List Int) : Option (List Int) :=
      some l0
theorem k48 (N : Nat) (l0 : List Int) : callF (E48) lv48 N en48 c48 (resOf Try.f48) 3 [.dv (.sl (.int .i64)) l0] [] dec48 = m48 N l0 := by kernel_rfl
theorem ok48 (a : (List Int) → Option (List Int)) (h : ∀ l0 r, a l0 = some r → (∃ N, m48 N l0 = some r)) : FnOk Try.prog 48 (F48 a) := by
  intro args Of x hx
  simp only [F48] at hx
  split at hx
  · rename_i l0
    obtain ⟨N, hN⟩ := h _ _ hx
    refine lifted (L := []) (rc := nrc) (fz := nfz) (fn := Try.f48) (by kernel_rfl) (by kernel_rfl) (by kernel_rfl) (by kernel_rfl) rfl ?_ ((k48 N _).trans hN) ?_
    · intro p hp; cases hp
    · intro l o hd
      simp only [dec48] at hd
      split at hd
      · obtain rfl := Option.some.inj hd; exact ⟨rfl, rfl⟩
      · cases hd
  · cases hx
def E14 (a16 : (List (Int × Int × Unit)) → (List Int) → Option (Int × Int)) (a18 : (List (Int × Int × Unit)) → Option (Int × Int)) (a20 : (List (Int × Int × Unit)) → Option (List Int × Int)) (a22 : (List Int) → (List Int) → Option (Bool)) (a25 : (List (Int × Int × Unit)) → Option (List Int × Int)) (a26 : (List (Int × Int × Unit)) → (List Int) → Option (Int × Int)) (a28 : (List (Int × Int × Unit)) → (List Int) → Option (Int)) (a30 : (List (Int × Int × Unit)) → Option (List Int × Int)) (a32 : (List (Int × Int × Unit)) → Option (List Int × Int)) (a34 : (List (Int × Int × Unit)) → Int → Option (Int × Int × Int)) (a36 : (List (Int × Int × Unit)) → Int → Option (Int × Int)) (a38 : (List (Int × Int × Unit)) → Int → Option (Int × Int)) (a47 : Option (List (Int × Int × Unit))) (a48 : (List Int) → Option (List Int)) : Env := mkE TI TY [(16, F16 a16), (18, F18 a18), (20, F20 a20), (22, F22 a22), (25, F25 a25), (26, F26 a26), (28, F28 a28), (30, F30 a30), (32, F32 a32), (34, F34 a34), (36, F36 a36), (38, F38 a38), (47, F47 a47), (48, F48 a48)] nrc nfz
noncomputable def c14 : Code := bodyOf Try.f14
def lv14 : Nat → Option Norm := norms []
def en14 : End := ⟨[], ⟨[185], [], [], []⟩⟩
def dec14 (l : List TV) (o : List (Nat × TO)) : Option (Bool) := match l, o with | [.dv (.bool) x0], [] => some (x0) | _, _ => none
def m14 (a16 : (List (Int × Int × Unit)) → (List Int) → Option (Int × Int)) (a18 : (List (Int × Int × Unit)) → Option (Int × Int)) (a20 : (List (Int × Int × Unit)) → Option (List Int × Int)) (a22 : (List Int) → (List Int) → Option (Bool)) (a25 : (List (Int × Int × Unit)) → Option (List Int × Int)) (a26 : (List (Int × Int × Unit)) → (List Int) → Option (Int × Int)) (a28 : (List (Int × Int × Unit)) → (List Int) → Option (Int)) (a30 : (List (Int × Int × Unit)) → Option (List Int × Int)) (a32 : (List (Int × Int × Unit)) → Option (List Int × Int)) (a34 : (List (Int × Int × Unit)) → Int → Option (Int × Int × Int)) (a36 : (List (Int × Int × Unit)) → Int → Option (Int × Int)) (a38 : (List (Int × Int × Unit)) → Int → Option (Int × Int)) (a47 : Option (List (Int × Int × Unit))) (a48 : (List Int) → Option (List Int)) (N : Nat) : Option (Bool) :=
      (a47).bind fun r1 =>
      (a18 r1).bind fun r2 =>
      (a47).bind fun r3 =>
      (a20 r3).bind fun r4 =>
      (a47).bind fun r5 =>
      (a48 ([(0 : Int), (1 : Int)] : List Int)).bind fun r6 =>
      (a16 r5 r6).bind fun r7 =>
      (a47).bind fun r8 =>
      (a48 ([(4 : Int), (1 : Int), (5 : Int), (3 : Int), (2 : Int)] : List Int)).bind fun r9 =>
      (a26 r8 r9).bind fun r10 =>
      (a47).bind fun r11 =>
      (a30 r11).bind fun r12 =>
      (a47).bind fun r13 =>
      (a32 r13).bind fun r14 =>
      (a47).bind fun r15 =>
      (a34 r15 (3 : Int)).bind fun r16 =>
      (a47).bind fun r17 =>
      (a25 r17).bind fun r18 =>
      (a47).bind fun r19 =>
      (a36 r19 (1 : Int)).bind fun r20 =>
      (a47).bind fun r21 =>
      (a38 r21 (1 : Int)).bind fun r22 =>
      (a47).bind fun r23 =>
      (a48 ([(1 : Int), (3 : Int), (4 : Int)] : List Int)).bind fun r24 =>
      (a16 r23 r24).bind fun r25 =>
      cond (r2.2 != (0 : Int)) (some false)
      (cond (r4.2 != (0 : Int)) (some false)
      (cond (r7.2 != (0 : Int)) (some false)
      (cond (r10.2 != (0 : Int)) (some false)
      (cond (r12.2 != (0 : Int)) (some false)
      (cond (r14.2 != (0 : Int)) (some false)
      (cond (r16.2.2 != (0 : Int)) (some false)
      (cond (r18.2 != (0 : Int)) (some false)
      (cond (r20.2 != (0 : Int)) (some false)
      (cond (r22.2 != (0 : Int)) (some false)
      (cond (r25.2 != (14 : Int)) (some false)
      (cond (r2.1 == (8 : Int)) ((a48 ([(1 : Int), (3 : Int), (4 : Int)] : List Int)).bind fun r26 =>
      (a22 r4.1 r26).bind fun r27 =>
      cond (r27) (cond (r7.1 == (1 : Int)) (cond (r10.1 == (8 : Int)) ((a48 ([(1 : Int), (3 : Int), (4 : Int)] : List Int)).bind fun r28 =>
      (a22 r12.1 r28).bind fun r29 =>
      cond (r29) ((a48 ([(0 : Int), (2 : Int)] : List Int)).bind fun r30 =>
      (a22 r14.1 r30).bind fun r31 =>
      cond (r31) (cond (r16.1 == (2 : Int)) (cond (r16.2.1 == (2 : Int)) (cond (r20.1 == (3 : Int)) (cond (r22.1 == (5 : Int)) ((a47).bind fun r32 =>
      (a28 r32 r18.1).bind fun r33 =>
      cond (r33 == (0 : Int)) ((a47).bind fun r34 =>
      (a48 ([(1 : Int), (2 : Int), (3 : Int), (4 : Int), (5 : Int)] : List Int)).bind fun r35 =>
      (a28 r34 r35).bind fun r36 =>
      some (r36 == (14 : Int)))
      (some false))
      (some false))
      (some false))
      (some false))
      (some false))
      (some false))
      (some false))
      (some false))
      (some false))
      (some false))
      (some false))))))))))))
theorem k14 (a16 : (List (Int × Int × Unit)) → (List Int) → Option (Int × Int)) (a18 : (List (Int × Int × Unit)) → Option (Int × Int)) (a20 : (List (Int × Int × Unit)) → Option (List Int × Int)) (a22 : (List Int) → (List Int) → Option (Bool)) (a25 : (List (Int × Int × Unit)) → Option (List Int × Int)) (a26 : (List (Int × Int × Unit)) → (List Int) → Option (Int × Int)) (a28 : (List (Int × Int × Unit)) → (List Int) → Option (Int)) (a30 : (List (Int × Int × Unit)) → Option (List Int × Int)) (a32 : (List (Int × Int × Unit)) → Option (List Int × Int)) (a34 : (List (Int × Int × Unit)) → Int → Option (Int × Int × Int)) (a36 : (List (Int × Int × Unit)) → Int → Option (Int × Int)) (a38 : (List (Int × Int × Unit)) → Int → Option (Int × Int)) (a47 : Option (List (Int × Int × Unit))) (a48 : (List Int) → Option (List Int)) (N : Nat) : callF (E14 a16 a18 a20 a22 a25 a26 a28 a30 a32 a34 a36 a38 a47 a48) lv14 N en14 c14 (resOf Try.f14) 185 [] [] dec14 = m14 a16 a18 a20 a22 a25 a26 a28 a30 a32 a34 a36 a38 a47 a48 N := by kernel_rfl
theorem ok14 (a16 : (List (Int × Int × Unit)) → (List Int) → Option (Int × Int)) (a18 : (List (Int × Int × Unit)) → Option (Int × Int)) (a20 : (List (Int × Int × Unit)) → Option (List Int × Int)) (a22 : (List Int) → (List Int) → Option (Bool)) (a25 : (List (Int × Int × Unit)) → Option (List Int × Int)) (a26 : (List (Int × Int × Unit)) → (List Int) → Option (Int × Int)) (a28 : (List (Int × Int × Unit)) → (List Int) → Option (Int)) (a30 : (List (Int × Int × Unit)) → Option (List Int × Int)) (a32 : (List (Int × Int × Unit)) → Option (List Int × Int)) (a34 : (List (Int × Int × Unit)) → Int → Option (Int × Int × Int)) (a36 : (List (Int × Int × Unit)) → Int → Option (Int × Int)) (a38 : (List (Int × Int × Unit)) → Int → Option (Int × Int)) (a47 : Option (List (Int × Int × Unit))) (a48 : (List Int) → Option (List Int)) (h16 : FnOk Try.prog 16 (F16 a16)) (h18 : FnOk Try.prog 18 (F18 a18)) (h20 : FnOk Try.prog 20 (F20 a20)) (h22 : FnOk Try.prog 22 (F22 a22)) (h25 : FnOk Try.prog 25 (F25 a25)) (h26 : FnOk Try.prog 26 (F26 a26)) (h28 : FnOk Try.prog 28 (F28 a28)) (h30 : FnOk Try.prog 30 (F30 a30)) (h32 : FnOk Try.prog 32 (F32 a32)) (h34 : FnOk Try.prog 34 (F34 a34)) (h36 : FnOk Try.prog 36 (F36 a36)) (h38 : FnOk Try.prog 38 (F38 a38)) (h47 : FnOk Try.prog 47 (F47 a47)) (h48 : FnOk Try.prog 48 (F48 a48)) (a : Option (Bool)) (h : ∀ r, a = some r → (∃ N, m14 a16 a18 a20 a22 a25 a26 a28 a30 a32 a34 a36 a38 a47 a48 N = some r)) : FnOk Try.prog 14 (F14 a) := by
  intro args Of x hx
  simp only [F14] at hx
  split at hx
  · skip
    obtain ⟨N, hN⟩ := h _ hx
    refine lifted (L := [(16, F16 a16), (18, F18 a18), (20, F20 a20), (22, F22 a22), (25, F25 a25), (26, F26 a26), (28, F28 a28), (30, F30 a30), (32, F32 a32), (34, F34 a34), (36, F36 a36), (38, F38 a38), (47, F47 a47), (48, F48 a48)]) (rc := nrc) (fz := nfz) (fn := Try.f14) (by kernel_rfl) (by kernel_rfl) (by kernel_rfl) (by kernel_rfl) rfl ?_ ((k14 a16 a18 a20 a22 a25 a26 a28 a30 a32 a34 a36 a38 a47 a48 N).trans hN) ?_
    · intro p hp; simp only [List.mem_cons, List.not_mem_nil, or_false] at hp; rcases hp with rfl | rfl | rfl | rfl | rfl | rfl | rfl | rfl | rfl | rfl | rfl | rfl | rfl | rfl
      · exact h16
      · exact h18
      · exact h20
      · exact h22
      · exact h25
      · exact h26
      · exact h28
      · exact h30
      · exact h32
      · exact h34
      · exact h36
      · exact h38
      · exact h47
      · exact h48
    · intro l o hd
      simp only [dec14] at hd
      split at hd
      · obtain rfl := Option.some.inj hd; exact ⟨rfl, rfl⟩
      · cases hd
  · cases hx
end Go.Proofs.Ytbblnbolabpfmaa
