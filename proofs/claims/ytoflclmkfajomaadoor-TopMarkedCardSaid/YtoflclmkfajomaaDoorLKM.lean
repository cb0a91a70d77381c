/-
 The functions that the law reaches, told as plain functions.
-/
import Derived.Test.YtoflclmkfajomaaDoorQFI
namespace Go.Proofs.YtoflclmkfajomaaDoor
open Go.RowKit
set_option linter.unusedVariables false
def E23 : Env := mkE TI TY [] nrc nfz
noncomputable def c23 : Code := bodyOf Tryd.f23
def lv23 : Nat → Option Norm := norms []
def en23 : End := ⟨[], ⟨[8], [], [], []⟩⟩
def dec23 (l : List TV) (o : List (Nat × TO)) : Option (Int) := match l, o with | [.dv (.int .i64) x0], [] => some (x0) | _, _ => none
def m23 (N : Nat) (cx0 : Int × List (List Int) × Unit) : Option (Int) :=
   chk (decide (0 ≤ (0 : Int) ∧ (0 : Int) < (cx0.2.1.length : Int))) (some ((cx0.2.1.getD 0 ([] : List Int)).length : Int))
theorem k23 (N : Nat) (cx0 : Int × List (List Int) × Unit) : callF (E23) lv23 N en23 c23 (resOf Tryd.f23) 7 [.dv (.pair (.int .i64) (.pair (.sl (.sl (.int .i64))) (.unit))) cx0] [] dec23 = m23 N cx0 := by kernel_rfl
theorem ok23 (a : Y23) (h : ∀ cx0 r, a cx0 = some r → (∃ N, m23 N cx0 = some r)) : FnOk Tryd.prog 23 (F23 a) := by
 intro args Of x hx
 simp only [F23] at hx
 split at hx
 ·rename_i cx0
  obtain ⟨N, hN⟩ := h _ _ hx
  refine lifted (L := []) (rc := nrc) (fz := nfz) (fn := Tryd.f23) (by kernel_rfl) (by kernel_rfl) (by kernel_rfl) (by kernel_rfl) rfl ?_ ((k23 N _).trans hN) ?_
  ·intro p hp; cases hp
  ·intro l o hd
   simp only [dec23] at hd
   split at hd
   ·obtain rfl := Option.some.inj hd; exact ⟨rfl, rfl⟩
   ·cases hd
 ·cases hx
def E40c (a23 : Y23) : Env := mkE TI TY [(23, F23 a23)] nrc nfz
noncomputable def c40c : Code := bodyOf Tryd.f40
def lv40c : Nat → Option Norm := norms []
def en40c : End := ⟨[], ⟨[9], [9000], [], []⟩⟩
def dec40c (l : List TV) (o : List (Nat × TO)) : Option (Bool × List Cd) := match l, o with | [.dv (.bool) x0], [(9000, .row (.pair (.int .i64) (.pair (.sl (.sl (.int .i64))) (.unit))) x1)] => some (x0, x1) | _, _ => none
def m40c (a23 : Y23) (N : Nat) (wx0 : List Int) (p1 : List Cd) : Option (Bool × List Cd) :=
   (a23 (p1.getD 0 ((0 : Int), (([] : List (List Int)), ())))).bind fun r1 =>
   some ((wx0.length : Int) != r1, p1)
theorem k40c (a23 : Y23) (N : Nat) (wx0 : List Int) (p1 : List Cd) : callF (E40c a23) lv40c N en40c c40c (resOf Tryd.f40) 7 [.dv (.sl (.int .i64)) wx0, .ptr 9000 0 []] [(9000, .row (.pair (.int .i64) (.pair (.sl (.sl (.int .i64))) (.unit))) p1)] dec40c = m40c a23 N wx0 p1 := by kernel_rfl
theorem ok40c (a23 : Y23) (h23 : FnOk Tryd.prog 23 (F23 a23)) (a : Y40c) (h : ∀ wx0 p1 r, a wx0 p1 = some r → (∃ N, m40c a23 N wx0 p1 = some r)) : FnOk Tryd.prog 40 (F40c a) := by
 intro args Of x hx
 simp only [F40c] at hx
 split at hx
 ·rename_i wx0 p1
  obtain ⟨N, hN⟩ := h _ _ _ hx
  refine lifted (L := [(23, F23 a23)]) (rc := nrc) (fz := nfz) (fn := Tryd.f40) (by kernel_rfl) (by kernel_rfl) (by kernel_rfl) (by kernel_rfl) rfl ?_ ((k40c a23 N _ _).trans hN) ?_
  ·intro p hp; simp only [List.mem_cons, List.not_mem_nil, or_false] at hp; rcases hp with rfl; exact h23
  ·intro l o hd
   simp only [dec40c] at hd
   split at hd
   ·obtain rfl := Option.some.inj hd; exact ⟨rfl, rfl⟩
   ·cases hd
 ·cases hx
def E31c40 (a40c : Y40c) : Env := mkE TI TY [(40, F40c a40c)] nrc nfz
noncomputable def c31c40 : Code := bodyOf Tryd.f31
def nm31c40_0 : Norm := ⟨[0, 1, 7, 8], [9000], [], []⟩
def lv31c40 : Nat → Option Norm := norms [(2, nm31c40_0)]
def en31c40 : End := ⟨[], ⟨[19], [9000], [], []⟩⟩
def dec31c40 (l : List TV) (o : List (Nat × TO)) : Option (Int × List Cd) := match l, o with | [.dv (.int .i64) x0], [(9000, .row (.pair (.int .i64) (.pair (.sl (.sl (.int .i64))) (.unit))) x1)] => some (x0, x1) | _, _ => none
def Sl31c40a (s0 : List (List Int)) (t8_a : Int) (o9000_a : List Cd) : TS := ⟨slots 19 [(0, .dv (.sl (.sl (.int .i64))) s0), (1, .fn 40 0 1 fun i => ([.ptr 9000 0 []] : List TV).getD i .any), (7, .dv (.int .i64) (s0.length : Int)), (8, .dv (.int .i64) t8_a)], [(9000, .row (.pair (.int .i64) (.pair (.sl (.sl (.int .i64))) (.unit))) o9000_a)]⟩
noncomputable def K31c40_0 (a40c : Y40c) (N : Nat) : Kont (Int × List Cd) := kont (E31c40 a40c) lv31c40 N c31c40 [1, 0, 1, 0] (fin TI en31c40 (resOf Tryd.f31) dec31c40)
noncomputable def R31c40_0 (a40c : Y40c) (N : Nat) (m : Nat) : TS → Option (Int × List Cd) := loopK (den (E31c40 a40c) lv31c40 N (sub c31c40 [1, 0, 1, 0, 0])) (TS.norm nm31c40_0) (K31c40_0 a40c N) m
def l31c40a (a40c : Y40c) (N : Nat) (s0 : List (List Int)) : Nat → Int → (List Cd) → Option (Int × List Cd)
 | 0, _, _ => none
 | n + 1, t8_a, o9000_a => cond (decide (t8_a < (s0.length : Int))) (chk (decide (0 ≤ t8_a ∧ t8_a < (s0.length : Int))) ((a40c (s0.getD t8_a.toNat ([] : List Int)) o9000_a).bind fun r1 =>
   cond (r1.1) (some (t8_a, r1.2))
   ((l31c40a a40c N s0 n (w64 (t8_a + (1 : Int))) r1.2))))
   (some ((-1 : Int), o9000_a))
theorem wl31c40a (a40c : Y40c) (N : Nat) (s0 : List (List Int)) (m : Nat) (t8_a : Int) (o9000_a : List Cd) : R31c40_0 a40c N (m + 1) (Sl31c40a s0 t8_a o9000_a) = cond (decide (t8_a < (s0.length : Int))) (chk (decide (0 ≤ t8_a ∧ t8_a < (s0.length : Int))) ((a40c (s0.getD t8_a.toNat ([] : List Int)) o9000_a).bind fun r1 =>
   cond (r1.1) (some (t8_a, r1.2))
   ((R31c40_0 a40c N m (Sl31c40a s0 (w64 (t8_a + (1 : Int))) r1.2)))))
   (some ((-1 : Int), o9000_a)) := by kernel_rfl
theorem ql31c40a (a40c : Y40c) (N : Nat) (s0 : List (List Int)) : ∀ (m : Nat) (t8_a : Int) (o9000_a : List Cd), R31c40_0 a40c N m (Sl31c40a s0 t8_a o9000_a) = l31c40a a40c N s0 m t8_a o9000_a
        | 0, _, _ => rfl
        | m + 1, t8_a, o9000_a => by rw [wl31c40a]; simp only [l31c40a, ql31c40a a40c N s0 m]
def m31c40 (a40c : Y40c) (N : Nat) (s0 : List (List Int)) (p1 : List Cd) : Option (Int × List Cd) :=
   (l31c40a a40c N s0 N (0 : Int) p1)
theorem wm31c40 (a40c : Y40c) (N : Nat) (s0 : List (List Int)) (p1 : List Cd) : callF (E31c40 a40c) lv31c40 N en31c40 c31c40 (resOf Tryd.f31) 17 [.dv (.sl (.sl (.int .i64))) s0, .fn 40 0 1 fun i => ([.ptr 9000 0 []] : List TV).getD i .any] [(9000, .row (.pair (.int .i64) (.pair (.sl (.sl (.int .i64))) (.unit))) p1)] dec31c40 = (R31c40_0 a40c N N (Sl31c40a s0 (0 : Int) p1)) := by kernel_rfl
theorem k31c40 (a40c : Y40c) (N : Nat) (s0 : List (List Int)) (p1 : List Cd) : callF (E31c40 a40c) lv31c40 N en31c40 c31c40 (resOf Tryd.f31) 17 [.dv (.sl (.sl (.int .i64))) s0, .fn 40 0 1 fun i => ([.ptr 9000 0 []] : List TV).getD i .any] [(9000, .row (.pair (.int .i64) (.pair (.sl (.sl (.int .i64))) (.unit))) p1)] dec31c40 = m31c40 a40c N s0 p1 := by rw [wm31c40]; simp only [m31c40, ql31c40a]
theorem ok31c40 (a40c : Y40c) (h40c : FnOk Tryd.prog 40 (F40c a40c)) (a : Y31c40) (h : ∀ s0 p1 r, a s0 p1 = some r → (∃ N, m31c40 a40c N s0 p1 = some r)) : FnOk Tryd.prog 31 (F31c40 a) := by
 intro args Of x hx
 simp only [F31c40] at hx
 split at hx
 ·rename_i s0 f_0 p1 heqc
  have hc0 := congrArg (fun c : List (List TV) => c.getD 0 []) heqc
  obtain ⟨N, hN⟩ := h _ _ _ hx
  refine HSpec.etaL (args := [.dv (.sl (.sl (.int .i64))) s0, .fn 40 0 1 fun i => ([.ptr 9000 0 []] : List TV).getD i .any]) (O := [(9000, .row (.pair (.int .i64) (.pair (.sl (.sl (.int .i64))) (.unit))) p1)]) ⟨TV.sim_refl _, TV.sim_fn hc0, trivial⟩ ⟨rfl, TO.sim_refl _, trivial⟩ (lifted (L := [(40, F40c a40c)]) (rc := nrc) (fz := nfz) (fn := Tryd.f31) (by kernel_rfl) (by kernel_rfl) (by kernel_rfl) (by kernel_rfl) rfl ?_ ((k31c40 a40c N _ _).trans hN) ?_)
  ·intro p hp; simp only [List.mem_cons, List.not_mem_nil, or_false] at hp; rcases hp with rfl; exact h40c
  ·intro l o hd
   simp only [dec31c40] at hd
   split at hd
   ·obtain rfl := Option.some.inj hd; exact ⟨rfl, rfl⟩
   ·cases hd
 ·cases hx
def E13c40 (a31c40 : Y31c40) : Env := mkE TI TY [(31, F31c40 a31c40)] nrc nfz
noncomputable def c13c40 : Code := bodyOf Tryd.f13
def lv13c40 : Nat → Option Norm := norms []
def en13c40 : End := ⟨[], ⟨[9], [9000], [], []⟩⟩
def dec13c40 (l : List TV) (o : List (Nat × TO)) : Option (Bool × List Cd) := match l, o with | [.dv (.bool) x0], [(9000, .row (.pair (.int .i64) (.pair (.sl (.sl (.int .i64))) (.unit))) x1)] => some (x0, x1) | _, _ => none
def m13c40 (a31c40 : Y31c40) (N : Nat) (s0 : List (List Int)) (p1 : List Cd) : Option (Bool × List Cd) :=
   (a31c40 s0 p1).bind fun r1 =>
   some (decide (r1.1 ≥ (0 : Int)), r1.2)
theorem k13c40 (a31c40 : Y31c40) (N : Nat) (s0 : List (List Int)) (p1 : List Cd) : callF (E13c40 a31c40) lv13c40 N en13c40 c13c40 (resOf Tryd.f13) 7 [.dv (.sl (.sl (.int .i64))) s0, .fn 40 0 1 fun i => ([.ptr 9000 0 []] : List TV).getD i .any] [(9000, .row (.pair (.int .i64) (.pair (.sl (.sl (.int .i64))) (.unit))) p1)] dec13c40 = m13c40 a31c40 N s0 p1 := by kernel_rfl
theorem ok13c40 (a31c40 : Y31c40) (h31c40 : FnOk Tryd.prog 31 (F31c40 a31c40)) (a : Y13c40) (h : ∀ s0 p1 r, a s0 p1 = some r → (∃ N, m13c40 a31c40 N s0 p1 = some r)) : FnOk Tryd.prog 13 (F13c40 a) := by
 intro args Of x hx
 simp only [F13c40] at hx
 split at hx
 ·rename_i s0 f_0 p1 heqc
  have hc0 := congrArg (fun c : List (List TV) => c.getD 0 []) heqc
  obtain ⟨N, hN⟩ := h _ _ _ hx
  refine HSpec.etaL (args := [.dv (.sl (.sl (.int .i64))) s0, .fn 40 0 1 fun i => ([.ptr 9000 0 []] : List TV).getD i .any]) (O := [(9000, .row (.pair (.int .i64) (.pair (.sl (.sl (.int .i64))) (.unit))) p1)]) ⟨TV.sim_refl _, TV.sim_fn hc0, trivial⟩ ⟨rfl, TO.sim_refl _, trivial⟩ (lifted (L := [(31, F31c40 a31c40)]) (rc := nrc) (fz := nfz) (fn := Tryd.f13) (by kernel_rfl) (by kernel_rfl) (by kernel_rfl) (by kernel_rfl) rfl ?_ ((k13c40 a31c40 N _ _).trans hN) ?_)
  ·intro p hp; simp only [List.mem_cons, List.not_mem_nil, or_false] at hp; rcases hp with rfl; exact h31c40
  ·intro l o hd
   simp only [dec13c40] at hd
   split at hd
   ·obtain rfl := Option.some.inj hd; exact ⟨rfl, rfl⟩
   ·cases hd
 ·cases hx
def E28 : Env := mkE TI TY [] nrc nfz
noncomputable def c28 : Code := bodyOf Tryd.f28
def lv28 : Nat → Option Norm := norms []
def en28 : End := ⟨[], ⟨[15], [], [], []⟩⟩
def dec28 (l : List TV) (o : List (Nat × TO)) : Option (Bool) := match l, o with | [.dv (.bool) x0], [] => some (x0) | _, _ => none
def m28 (N : Nat) (lo0 : Int) (n1 : Int) (hi2 : Int) : Option (Bool) :=
   cond (decide (lo0 ≤ n1)) (some (decide (n1 ≤ hi2)))
   (some false)
theorem k28 (N : Nat) (lo0 : Int) (n1 : Int) (hi2 : Int) : callF (E28) lv28 N en28 c28 (resOf Tryd.f28) 12 [.dv (.int .i64) lo0, .dv (.int .i64) n1, .dv (.int .i64) hi2] [] dec28 = m28 N lo0 n1 hi2 := by kernel_rfl
theorem ok28 (a : Y28) (h : ∀ lo0 n1 hi2 r, a lo0 n1 hi2 = some r → (∃ N, m28 N lo0 n1 hi2 = some r)) : FnOk Tryd.prog 28 (F28 a) := by
 intro args Of x hx
 simp only [F28] at hx
 split at hx
 ·rename_i lo0 n1 hi2
  obtain ⟨N, hN⟩ := h _ _ _ _ hx
  refine lifted (L := []) (rc := nrc) (fz := nfz) (fn := Tryd.f28) (by kernel_rfl) (by kernel_rfl) (by kernel_rfl) (by kernel_rfl) rfl ?_ ((k28 N _ _ _).trans hN) ?_
  ·intro p hp; cases hp
  ·intro l o hd
   simp only [dec28] at hd
   split at hd
   ·obtain rfl := Option.some.inj hd; exact ⟨rfl, rfl⟩
   ·cases hd
 ·cases hx
def E56c (a28 : Y28) : Env := mkE TI TY [(28, F28 a28)] nrc nfz
noncomputable def c56c : Code := bodyOf Tryd.f56
def lv56c : Nat → Option Norm := norms []
def en56c : End := ⟨[], ⟨[10], [9000], [], []⟩⟩
def dec56c (l : List TV) (o : List (Nat × TO)) : Option (Bool × List Cd) := match l, o with | [.dv (.bool) x0], [(9000, .row (.pair (.int .i64) (.pair (.sl (.sl (.int .i64))) (.unit))) x1)] => some (x0, x1) | _, _ => none
def m56c (a28 : Y28) (N : Nat) (mx0 : Int) (p1 : List Cd) : Option (Bool × List Cd) :=
   (a28 (0 : Int) mx0 (w64 (((p1.getD 0 ((0 : Int), (([] : List (List Int)), ()))).1) - (1 : Int)))).bind fun r1 =>
   some (!r1, p1)
theorem k56c (a28 : Y28) (N : Nat) (mx0 : Int) (p1 : List Cd) : callF (E56c a28) lv56c N en56c c56c (resOf Tryd.f56) 8 [.dv (.int .i64) mx0, .ptr 9000 0 []] [(9000, .row (.pair (.int .i64) (.pair (.sl (.sl (.int .i64))) (.unit))) p1)] dec56c = m56c a28 N mx0 p1 := by kernel_rfl
theorem ok56c (a28 : Y28) (h28 : FnOk Tryd.prog 28 (F28 a28)) (a : Y56c) (h : ∀ mx0 p1 r, a mx0 p1 = some r → (∃ N, m56c a28 N mx0 p1 = some r)) : FnOk Tryd.prog 56 (F56c a) := by
 intro args Of x hx
 simp only [F56c] at hx
 split at hx
 ·rename_i mx0 p1
  obtain ⟨N, hN⟩ := h _ _ _ hx
  refine lifted (L := [(28, F28 a28)]) (rc := nrc) (fz := nfz) (fn := Tryd.f56) (by kernel_rfl) (by kernel_rfl) (by kernel_rfl) (by kernel_rfl) rfl ?_ ((k56c a28 N _ _).trans hN) ?_
  ·intro p hp; simp only [List.mem_cons, List.not_mem_nil, or_false] at hp; rcases hp with rfl; exact h28
  ·intro l o hd
   simp only [dec56c] at hd
   split at hd
   ·obtain rfl := Option.some.inj hd; exact ⟨rfl, rfl⟩
   ·cases hd
 ·cases hx
def E32c56 (a56c : Y56c) : Env := mkE TI TY [(56, F56c a56c)] nrc nfz
noncomputable def c32c56 : Code := bodyOf Tryd.f32
def nm32c56_0 : Norm := ⟨[0, 1, 7, 8], [9000], [], []⟩
def lv32c56 : Nat → Option Norm := norms [(2, nm32c56_0)]
def en32c56 : End := ⟨[], ⟨[19], [9000], [], []⟩⟩
def dec32c56 (l : List TV) (o : List (Nat × TO)) : Option (Int × List Cd) := match l, o with | [.dv (.int .i64) x0], [(9000, .row (.pair (.int .i64) (.pair (.sl (.sl (.int .i64))) (.unit))) x1)] => some (x0, x1) | _, _ => none
def Sl32c56a (s0 : List Int) (t8_a : Int) (o9000_a : List Cd) : TS := ⟨slots 19 [(0, .dv (.sl (.int .i64)) s0), (1, .fn 56 0 1 fun i => ([.ptr 9000 0 []] : List TV).getD i .any), (7, .dv (.int .i64) (s0.length : Int)), (8, .dv (.int .i64) t8_a)], [(9000, .row (.pair (.int .i64) (.pair (.sl (.sl (.int .i64))) (.unit))) o9000_a)]⟩
noncomputable def K32c56_0 (a56c : Y56c) (N : Nat) : Kont (Int × List Cd) := kont (E32c56 a56c) lv32c56 N c32c56 [1, 0, 1, 0] (fin TI en32c56 (resOf Tryd.f32) dec32c56)
noncomputable def R32c56_0 (a56c : Y56c) (N : Nat) (m : Nat) : TS → Option (Int × List Cd) := loopK (den (E32c56 a56c) lv32c56 N (sub c32c56 [1, 0, 1, 0, 0])) (TS.norm nm32c56_0) (K32c56_0 a56c N) m
def l32c56a (a56c : Y56c) (N : Nat) (s0 : List Int) : Nat → Int → (List Cd) → Option (Int × List Cd)
 | 0, _, _ => none
 | n + 1, t8_a, o9000_a => cond (decide (t8_a < (s0.length : Int))) (chk (decide (0 ≤ t8_a ∧ t8_a < (s0.length : Int))) ((a56c (s0.getD t8_a.toNat (0 : Int)) o9000_a).bind fun r1 =>
   cond (r1.1) (some (t8_a, r1.2))
   ((l32c56a a56c N s0 n (w64 (t8_a + (1 : Int))) r1.2))))
   (some ((-1 : Int), o9000_a))
theorem wl32c56a (a56c : Y56c) (N : Nat) (s0 : List Int) (m : Nat) (t8_a : Int) (o9000_a : List Cd) : R32c56_0 a56c N (m + 1) (Sl32c56a s0 t8_a o9000_a) = cond (decide (t8_a < (s0.length : Int))) (chk (decide (0 ≤ t8_a ∧ t8_a < (s0.length : Int))) ((a56c (s0.getD t8_a.toNat (0 : Int)) o9000_a).bind fun r1 =>
   cond (r1.1) (some (t8_a, r1.2))
   ((R32c56_0 a56c N m (Sl32c56a s0 (w64 (t8_a + (1 : Int))) r1.2)))))
   (some ((-1 : Int), o9000_a)) := by kernel_rfl
theorem ql32c56a (a56c : Y56c) (N : Nat) (s0 : List Int) : ∀ (m : Nat) (t8_a : Int) (o9000_a : List Cd), R32c56_0 a56c N m (Sl32c56a s0 t8_a o9000_a) = l32c56a a56c N s0 m t8_a o9000_a
        | 0, _, _ => rfl
        | m + 1, t8_a, o9000_a => by rw [wl32c56a]; simp only [l32c56a, ql32c56a a56c N s0 m]
def m32c56 (a56c : Y56c) (N : Nat) (s0 : List Int) (p1 : List Cd) : Option (Int × List Cd) :=
   (l32c56a a56c N s0 N (0 : Int) p1)
theorem wm32c56 (a56c : Y56c) (N : Nat) (s0 : List Int) (p1 : List Cd) : callF (E32c56 a56c) lv32c56 N en32c56 c32c56 (resOf Tryd.f32) 17 [.dv (.sl (.int .i64)) s0, .fn 56 0 1 fun i => ([.ptr 9000 0 []] : List TV).getD i .any] [(9000, .row (.pair (.int .i64) (.pair (.sl (.sl (.int .i64))) (.unit))) p1)] dec32c56 = (R32c56_0 a56c N N (Sl32c56a s0 (0 : Int) p1)) := by kernel_rfl
theorem k32c56 (a56c : Y56c) (N : Nat) (s0 : List Int) (p1 : List Cd) : callF (E32c56 a56c) lv32c56 N en32c56 c32c56 (resOf Tryd.f32) 17 [.dv (.sl (.int .i64)) s0, .fn 56 0 1 fun i => ([.ptr 9000 0 []] : List TV).getD i .any] [(9000, .row (.pair (.int .i64) (.pair (.sl (.sl (.int .i64))) (.unit))) p1)] dec32c56 = m32c56 a56c N s0 p1 := by rw [wm32c56]; simp only [m32c56, ql32c56a]
theorem ok32c56 (a56c : Y56c) (h56c : FnOk Tryd.prog 56 (F56c a56c)) (a : Y32c56) (h : ∀ s0 p1 r, a s0 p1 = some r → (∃ N, m32c56 a56c N s0 p1 = some r)) : FnOk Tryd.prog 32 (F32c56 a) := by
 intro args Of x hx
 simp only [F32c56] at hx
 split at hx
 ·rename_i s0 f_0 p1 heqc
  have hc0 := congrArg (fun c : List (List TV) => c.getD 0 []) heqc
  obtain ⟨N, hN⟩ := h _ _ _ hx
  refine HSpec.etaL (args := [.dv (.sl (.int .i64)) s0, .fn 56 0 1 fun i => ([.ptr 9000 0 []] : List TV).getD i .any]) (O := [(9000, .row (.pair (.int .i64) (.pair (.sl (.sl (.int .i64))) (.unit))) p1)]) ⟨TV.sim_refl _, TV.sim_fn hc0, trivial⟩ ⟨rfl, TO.sim_refl _, trivial⟩ (lifted (L := [(56, F56c a56c)]) (rc := nrc) (fz := nfz) (fn := Tryd.f32) (by kernel_rfl) (by kernel_rfl) (by kernel_rfl) (by kernel_rfl) rfl ?_ ((k32c56 a56c N _ _).trans hN) ?_)
  ·intro p hp; simp only [List.mem_cons, List.not_mem_nil, or_false] at hp; rcases hp with rfl; exact h56c
  ·intro l o hd
   simp only [dec32c56] at hd
   split at hd
   ·obtain rfl := Option.some.inj hd; exact ⟨rfl, rfl⟩
   ·cases hd
 ·cases hx
def E15c56 (a32c56 : Y32c56) : Env := mkE TI TY [(32, F32c56 a32c56)] nrc nfz
noncomputable def c15c56 : Code := bodyOf Tryd.f15
def lv15c56 : Nat → Option Norm := norms []
def en15c56 : End := ⟨[], ⟨[9], [9000], [], []⟩⟩
def dec15c56 (l : List TV) (o : List (Nat × TO)) : Option (Bool × List Cd) := match l, o with | [.dv (.bool) x0], [(9000, .row (.pair (.int .i64) (.pair (.sl (.sl (.int .i64))) (.unit))) x1)] => some (x0, x1) | _, _ => none
def m15c56 (a32c56 : Y32c56) (N : Nat) (s0 : List Int) (p1 : List Cd) : Option (Bool × List Cd) :=
   (a32c56 s0 p1).bind fun r1 =>
   some (decide (r1.1 ≥ (0 : Int)), r1.2)
theorem k15c56 (a32c56 : Y32c56) (N : Nat) (s0 : List Int) (p1 : List Cd) : callF (E15c56 a32c56) lv15c56 N en15c56 c15c56 (resOf Tryd.f15) 7 [.dv (.sl (.int .i64)) s0, .fn 56 0 1 fun i => ([.ptr 9000 0 []] : List TV).getD i .any] [(9000, .row (.pair (.int .i64) (.pair (.sl (.sl (.int .i64))) (.unit))) p1)] dec15c56 = m15c56 a32c56 N s0 p1 := by kernel_rfl
theorem ok15c56 (a32c56 : Y32c56) (h32c56 : FnOk Tryd.prog 32 (F32c56 a32c56)) (a : Y15c56) (h : ∀ s0 p1 r, a s0 p1 = some r → (∃ N, m15c56 a32c56 N s0 p1 = some r)) : FnOk Tryd.prog 15 (F15c56 a) := by
 intro args Of x hx
 simp only [F15c56] at hx
 split at hx
 ·rename_i s0 f_0 p1 heqc
  have hc0 := congrArg (fun c : List (List TV) => c.getD 0 []) heqc
  obtain ⟨N, hN⟩ := h _ _ _ hx
  refine HSpec.etaL (args := [.dv (.sl (.int .i64)) s0, .fn 56 0 1 fun i => ([.ptr 9000 0 []] : List TV).getD i .any]) (O := [(9000, .row (.pair (.int .i64) (.pair (.sl (.sl (.int .i64))) (.unit))) p1)]) ⟨TV.sim_refl _, TV.sim_fn hc0, trivial⟩ ⟨rfl, TO.sim_refl _, trivial⟩ (lifted (L := [(32, F32c56 a32c56)]) (rc := nrc) (fz := nfz) (fn := Tryd.f15) (by kernel_rfl) (by kernel_rfl) (by kernel_rfl) (by kernel_rfl) rfl ?_ ((k15c56 a32c56 N _ _).trans hN) ?_)
  ·intro p hp; simp only [List.mem_cons, List.not_mem_nil, or_false] at hp; rcases hp with rfl; exact h32c56
  ·intro l o hd
   simp only [dec15c56] at hd
   split at hd
   ·obtain rfl := Option.some.inj hd; exact ⟨rfl, rfl⟩
   ·cases hd
 ·cases hx
def E41 (a15c56 : Y15c56) (a23 : Y23) : Env := mkE TI TY [(15, F15c56 a15c56), (23, F23 a23)] nrc nfz
noncomputable def c41 : Code := bodyOf Tryd.f41
def lv41 : Nat → Option Norm := norms []
def en41 : End := ⟨[], ⟨[15], [], [], []⟩⟩
def dec41 (l : List TV) (o : List (Nat × TO)) : Option (Int) := match l, o with | [.dv (.int .i64) x0], [] => some (x0) | _, _ => none
def m41 (a15c56 : Y15c56) (a23 : Y23) (N : Nat) (cx0 : Int × List (List Int) × Unit) (wx1 : List Int) : Option (Int) :=
   (a23 cx0).bind fun r1 =>
   cond ((wx1.length : Int) != r1) (some (3 : Int))
   ((a15c56 wx1 ([cx0] : List Cd)).bind fun r2 =>
   cond (r2.1) (some (4 : Int))
   (some (0 : Int)))
theorem k41 (a15c56 : Y15c56) (a23 : Y23) (N : Nat) (cx0 : Int × List (List Int) × Unit) (wx1 : List Int) : callF (E41 a15c56 a23) lv41 N en41 c41 (resOf Tryd.f41) 13 [.dv (.pair (.int .i64) (.pair (.sl (.sl (.int .i64))) (.unit))) cx0, .dv (.sl (.int .i64)) wx1] [] dec41 = m41 a15c56 a23 N cx0 wx1 := by kernel_rfl
theorem ok41 (a15c56 : Y15c56) (a23 : Y23) (h15c56 : FnOk Tryd.prog 15 (F15c56 a15c56)) (h23 : FnOk Tryd.prog 23 (F23 a23)) (a : Y41) (h : ∀ cx0 wx1 r, a cx0 wx1 = some r → (∃ N, m41 a15c56 a23 N cx0 wx1 = some r)) : FnOk Tryd.prog 41 (F41 a) := by
 intro args Of x hx
 simp only [F41] at hx
 split at hx
 ·rename_i cx0 wx1
  obtain ⟨N, hN⟩ := h _ _ _ hx
  refine lifted (L := [(15, F15c56 a15c56), (23, F23 a23)]) (rc := nrc) (fz := nfz) (fn := Tryd.f41) (by kernel_rfl) (by kernel_rfl) (by kernel_rfl) (by kernel_rfl) rfl ?_ ((k41 a15c56 a23 N _ _).trans hN) ?_
  ·intro p hp; simp only [List.mem_cons, List.not_mem_nil, or_false] at hp; rcases hp with rfl | rfl
   ·exact h15c56
   ·exact h23
  ·intro l o hd
   simp only [dec41] at hd
   split at hd
   ·obtain rfl := Option.some.inj hd; exact ⟨rfl, rfl⟩
   ·cases hd
 ·cases hx
def E22 (a13c40 : Y13c40) (a23 : Y23) (a28 : Y28) (a41 : Y41) : Env := mkE TI TY [(13, F13c40 a13c40), (23, F23 a23), (28, F28 a28), (41, F41 a41)] nrc nfz
noncomputable def c22 : Code := bodyOf Tryd.f22
def nm22_0 : Norm := ⟨[1, 33, 34, 35], [1], [], []⟩
def lv22 : Nat → Option Norm := norms [(10, nm22_0)]
def en22 : End := ⟨[], ⟨[46], [], [], []⟩⟩
def dec22 (l : List TV) (o : List (Nat × TO)) : Option (Int) := match l, o with | [.dv (.int .i64) x0], [] => some (x0) | _, _ => none
def Sl22a (r4 : Bool × List Cd) (t35_a : Int) : TS := ⟨slots 46 [(1, .ptr 1 0 []), (33, .dv (.sl (.sl (.int .i64))) (((r4.2.getD 0 ((0 : Int), (([] : List (List Int)), ()))).2).1)), (34, .dv (.int .i64) ((((r4.2.getD 0 ((0 : Int), (([] : List (List Int)), ()))).2).1).length : Int)), (35, .dv (.int .i64) t35_a)], [(1, .row (.pair (.int .i64) (.pair (.sl (.sl (.int .i64))) (.unit))) r4.2)]⟩
noncomputable def K22_0 (a13c40 : Y13c40) (a23 : Y23) (a28 : Y28) (a41 : Y41) (N : Nat) : Kont (Int) := kont (E22 a13c40 a23 a28 a41) lv22 N c22 [1, 1, 0, 1, 0] (fin TI en22 (resOf Tryd.f22) dec22)
noncomputable def R22_0 (a13c40 : Y13c40) (a23 : Y23) (a28 : Y28) (a41 : Y41) (N : Nat) (m : Nat) : TS → Option (Int) := loopK (den (E22 a13c40 a23 a28 a41) lv22 N (sub c22 [1, 1, 0, 1, 0, 0])) (TS.norm nm22_0) (K22_0 a13c40 a23 a28 a41 N) m
def l22a (a13c40 : Y13c40) (a23 : Y23) (a28 : Y28) (a41 : Y41) (N : Nat) (r4 : Bool × List Cd) : Nat → Int → Option (Int)
 | 0, _ => none
 | n + 1, t35_a => cond (decide (t35_a < ((((r4.2.getD 0 ((0 : Int), (([] : List (List Int)), ()))).2).1).length : Int))) (chk (decide (0 ≤ t35_a ∧ t35_a < ((((r4.2.getD 0 ((0 : Int), (([] : List (List Int)), ()))).2).1).length : Int))) ((a41 (r4.2.getD 0 ((0 : Int), (([] : List (List Int)), ()))) ((((r4.2.getD 0 ((0 : Int), (([] : List (List Int)), ()))).2).1).getD t35_a.toNat ([] : List Int))).bind fun r5 =>
   cond (r5 != (0 : Int)) (some r5)
   ((l22a a13c40 a23 a28 a41 N r4 n (w64 (t35_a + (1 : Int)))))))
   (some (0 : Int))
theorem wl22a (a13c40 : Y13c40) (a23 : Y23) (a28 : Y28) (a41 : Y41) (N : Nat) (r4 : Bool × List Cd) (m : Nat) (t35_a : Int) : R22_0 a13c40 a23 a28 a41 N (m + 1) (Sl22a r4 t35_a) = cond (decide (t35_a < ((((r4.2.getD 0 ((0 : Int), (([] : List (List Int)), ()))).2).1).length : Int))) (chk (decide (0 ≤ t35_a ∧ t35_a < ((((r4.2.getD 0 ((0 : Int), (([] : List (List Int)), ()))).2).1).length : Int))) ((a41 (r4.2.getD 0 ((0 : Int), (([] : List (List Int)), ()))) ((((r4.2.getD 0 ((0 : Int), (([] : List (List Int)), ()))).2).1).getD t35_a.toNat ([] : List Int))).bind fun r5 =>
   cond (r5 != (0 : Int)) (some r5)
   ((R22_0 a13c40 a23 a28 a41 N m (Sl22a r4 (w64 (t35_a + (1 : Int))))))))
   (some (0 : Int)) := by kernel_rfl
theorem ql22a (a13c40 : Y13c40) (a23 : Y23) (a28 : Y28) (a41 : Y41) (N : Nat) (r4 : Bool × List Cd) : ∀ (m : Nat) (t35_a : Int), R22_0 a13c40 a23 a28 a41 N m (Sl22a r4 t35_a) = l22a a13c40 a23 a28 a41 N r4 m t35_a
        | 0, _ => rfl
        | m + 1, t35_a => by rw [wl22a]; simp only [l22a, ql22a a13c40 a23 a28 a41 N r4 m]
def m22 (a13c40 : Y13c40) (a23 : Y23) (a28 : Y28) (a41 : Y41) (N : Nat) (cx0 : Int × List (List Int) × Unit) : Option (Int) :=
   (a28 (2 : Int) cx0.1 (4 : Int)).bind fun r1 =>
   cond (!r1) (some (4 : Int))
   (cond ((cx0.2.1.length : Int) == (0 : Int)) (some (1 : Int))
   (cond (decide ((cx0.2.1.length : Int) > (10 : Int))) (some (2 : Int))
   ((a23 cx0).bind fun r2 =>
   (a28 (1 : Int) r2 (8 : Int)).bind fun r3 =>
   cond (!r3) (some (3 : Int))
   ((a13c40 cx0.2.1 ([cx0] : List Cd)).bind fun r4 =>
   cond (r4.1) (some (3 : Int))
   ((l22a a13c40 a23 a28 a41 N r4 N (0 : Int)))))))
theorem wm22 (a13c40 : Y13c40) (a23 : Y23) (a28 : Y28) (a41 : Y41) (N : Nat) (cx0 : Int × List (List Int) × Unit) : callF (E22 a13c40 a23 a28 a41) lv22 N en22 c22 (resOf Tryd.f22) 45 [.dv (.pair (.int .i64) (.pair (.sl (.sl (.int .i64))) (.unit))) cx0] [] dec22 = (a28 (2 : Int) cx0.1 (4 : Int)).bind fun r1 =>
   cond (!r1) (some (4 : Int))
   (cond ((cx0.2.1.length : Int) == (0 : Int)) (some (1 : Int))
   (cond (decide ((cx0.2.1.length : Int) > (10 : Int))) (some (2 : Int))
   ((a23 cx0).bind fun r2 =>
   (a28 (1 : Int) r2 (8 : Int)).bind fun r3 =>
   cond (!r3) (some (3 : Int))
   ((a13c40 cx0.2.1 ([cx0] : List Cd)).bind fun r4 =>
   cond (r4.1) (some (3 : Int))
   ((R22_0 a13c40 a23 a28 a41 N N (Sl22a r4 (0 : Int)))))))) := by kernel_rfl
theorem k22 (a13c40 : Y13c40) (a23 : Y23) (a28 : Y28) (a41 : Y41) (N : Nat) (cx0 : Int × List (List Int) × Unit) : callF (E22 a13c40 a23 a28 a41) lv22 N en22 c22 (resOf Tryd.f22) 45 [.dv (.pair (.int .i64) (.pair (.sl (.sl (.int .i64))) (.unit))) cx0] [] dec22 = m22 a13c40 a23 a28 a41 N cx0 := by rw [wm22]; simp only [m22, ql22a]
theorem ok22 (a13c40 : Y13c40) (a23 : Y23) (a28 : Y28) (a41 : Y41) (h13c40 : FnOk Tryd.prog 13 (F13c40 a13c40)) (h23 : FnOk Tryd.prog 23 (F23 a23)) (h28 : FnOk Tryd.prog 28 (F28 a28)) (h41 : FnOk Tryd.prog 41 (F41 a41)) (a : Y22) (h : ∀ cx0 r, a cx0 = some r → (∃ N, m22 a13c40 a23 a28 a41 N cx0 = some r)) : FnOk Tryd.prog 22 (F22 a) := by
 intro args Of x hx
 simp only [F22] at hx
 split at hx
 ·rename_i cx0
  obtain ⟨N, hN⟩ := h _ _ hx
  refine lifted (L := [(13, F13c40 a13c40), (23, F23 a23), (28, F28 a28), (41, F41 a41)]) (rc := nrc) (fz := nfz) (fn := Tryd.f22) (by kernel_rfl) (by kernel_rfl) (by kernel_rfl) (by kernel_rfl) rfl ?_ ((k22 a13c40 a23 a28 a41 N _).trans hN) ?_
  ·intro p hp; simp only [List.mem_cons, List.not_mem_nil, or_false] at hp; rcases hp with rfl | rfl | rfl | rfl
   ·exact h13c40
   ·exact h23
   ·exact h28
   ·exact h41
  ·intro l o hd
   simp only [dec22] at hd
   split at hd
   ·obtain rfl := Option.some.inj hd; exact ⟨rfl, rfl⟩
   ·cases hd
 ·cases hx
def E25 : Env := mkE TI TY [] nrc nfz
noncomputable def c25 : Code := bodyOf Tryd.f25
def lv25 : Nat → Option Norm := norms [(1000001, ⟨[], [2, 3], [], []⟩)]
def en25 : End := ⟨[], ⟨[6], [], [], []⟩⟩
def dec25 (l : List TV) (o : List (Nat × TO)) : Option (Int × Int × List (List Int) × Unit) := match l, o, capsOf l o with | [.fn 42 0 2 _], [], [[.el (.int .i64) x0 [], .el (.pair (.int .i64) (.pair (.sl (.sl (.int .i64))) (.unit))) x1 []]] => some (x0, x1) | _, _, _ => none
def m25 (N : Nat) (cx0 : Int × List (List Int) × Unit) (size1 : Int) : Option (Int × Int × List (List Int) × Unit) :=
   some (size1, cx0)
theorem k25 (N : Nat) (cx0 : Int × List (List Int) × Unit) (size1 : Int) : callF (E25) lv25 N en25 c25 (resOf Tryd.f25) 4 [.dv (.pair (.int .i64) (.pair (.sl (.sl (.int .i64))) (.unit))) cx0, .dv (.int .i64) size1] [] dec25 = m25 N cx0 size1 := by kernel_rfl
theorem ok25 (a : Y25) (h : ∀ cx0 size1 r, a cx0 size1 = some r → (∃ N, m25 N cx0 size1 = some r)) : FnOk Tryd.prog 25 (F25 a) := by
 intro args Of x hx
 simp only [F25] at hx
 split at hx
 ·rename_i cx0 size1
  obtain ⟨N, hN⟩ := h _ _ _ hx
  refine liftedS (L := []) (rc := nrc) (fz := nfz) (fn := Tryd.f25) (by kernel_rfl) (by kernel_rfl) (by kernel_rfl) (by kernel_rfl) rfl ?_ ((k25 N _ _).trans hN) ?_
  ·intro p hp; cases hp
  ·intro l o hd
   simp only [dec25] at hd
   split at hd
   ·rename_i heqd
    have hd0 := congrArg (fun c : List (List TV) => c.getD 0 []) heqd
    obtain rfl := Option.some.inj hd; exact ⟨TV.sim_symm (TV.sim_fn hd0), trivial⟩
   ·cases hd
 ·cases hx
def E27 : Env := mkE TI TY [] nrc nfz
noncomputable def c27 : Code := bodyOf Tryd.f27
def lv27 : Nat → Option Norm := norms []
def en27 : End := ⟨[], ⟨[], [], [(.slot 8, 1500, .int .i64)], []⟩⟩
def dec27 (l : List TV) (o : List (Nat × TO)) : Option (List Int) := match l, o with | [.row 1500], [(1500, .row (.int .i64) x0)] => some (x0) | _, _ => none
def m27 (N : Nat) (s0 : Option (List Int)) : Option (List Int) :=
   cond (s0.isNone) (some ([] : List Int))
   (chk (small (0 + (s0.getD []).length) 8) (some (([] : List Int) ++ (s0.getD []))))
theorem k27 (N : Nat) (s0 : Option (List Int)) : callF (E27) lv27 N en27 c27 (resOf Tryd.f27) 7 [.dv (.nsl (.int .i64)) s0] [] dec27 = m27 N s0 := by kernel_rfl
theorem ok27 (a : Y27) (h : ∀ s0 r, a s0 = some r → (∃ N, m27 N s0 = some r)) : FnOk Tryd.prog 27 (F27 a) := by
 intro args Of x hx
 simp only [F27] at hx
 split at hx
 ·rename_i s0
  obtain ⟨N, hN⟩ := h _ _ hx
  refine lifted (L := []) (rc := nrc) (fz := nfz) (fn := Tryd.f27) (by kernel_rfl) (by kernel_rfl) (by kernel_rfl) (by kernel_rfl) rfl ?_ ((k27 N _).trans hN) ?_
  ·intro p hp; cases hp
  ·intro l o hd
   simp only [dec27] at hd
   split at hd
   ·obtain rfl := Option.some.inj hd; exact ⟨rfl, rfl⟩
   ·cases hd
 ·cases hx
def E35 : Env := mkE TI TY [] nrc nfz
noncomputable def c35 : Code := bodyOf Tryd.f35
def nm35_0 : Norm := ⟨[0, 1, 7, 8], [], [], []⟩
def lv35 : Nat → Option Norm := norms [(2, nm35_0)]
def en35 : End := ⟨[], ⟨[19], [], [], []⟩⟩
def dec35 (l : List TV) (o : List (Nat × TO)) : Option (Int) := match l, o with | [.dv (.int .i64) x0], [] => some (x0) | _, _ => none
def Sl35a (s0 : List Int) (v1 : Int) (t8_a : Int) : TS := ⟨slots 19 [(0, .dv (.sl (.int .i64)) s0), (1, .dv (.int .i64) v1), (7, .dv (.int .i64) (s0.length : Int)), (8, .dv (.int .i64) t8_a)], []⟩
noncomputable def K35_0 (N : Nat) : Kont (Int) := kont (E35) lv35 N c35 [1, 0, 1, 0] (fin TI en35 (resOf Tryd.f35) dec35)
noncomputable def R35_0 (N : Nat) (m : Nat) : TS → Option (Int) := loopK (den (E35) lv35 N (sub c35 [1, 0, 1, 0, 0])) (TS.norm nm35_0) (K35_0 N) m
def l35a (N : Nat) (s0 : List Int) (v1 : Int) : Nat → Int → Option (Int)
 | 0, _ => none
 | n + 1, t8_a => cond (decide (t8_a < (s0.length : Int))) (chk (decide (0 ≤ t8_a ∧ t8_a < (s0.length : Int))) (cond (v1 == (s0.getD t8_a.toNat (0 : Int))) (some t8_a)
   ((l35a N s0 v1 n (w64 (t8_a + (1 : Int)))))))
   (some (-1 : Int))
theorem wl35a (N : Nat) (s0 : List Int) (v1 : Int) (m : Nat) (t8_a : Int) : R35_0 N (m + 1) (Sl35a s0 v1 t8_a) = cond (decide (t8_a < (s0.length : Int))) (chk (decide (0 ≤ t8_a ∧ t8_a < (s0.length : Int))) (cond (v1 == (s0.getD t8_a.toNat (0 : Int))) (some t8_a)
   ((R35_0 N m (Sl35a s0 v1 (w64 (t8_a + (1 : Int))))))))
   (some (-1 : Int)) := by kernel_rfl
theorem ql35a (N : Nat) (s0 : List Int) (v1 : Int) : ∀ (m : Nat) (t8_a : Int), R35_0 N m (Sl35a s0 v1 t8_a) = l35a N s0 v1 m t8_a
        | 0, _ => rfl
        | m + 1, t8_a => by rw [wl35a]; simp only [l35a, ql35a N s0 v1 m]
def m35 (N : Nat) (s0 : List Int) (v1 : Int) : Option (Int) :=
   (l35a N s0 v1 N (0 : Int))
theorem wm35 (N : Nat) (s0 : List Int) (v1 : Int) : callF (E35) lv35 N en35 c35 (resOf Tryd.f35) 17 [.dv (.sl (.int .i64)) s0, .dv (.int .i64) v1] [] dec35 = (R35_0 N N (Sl35a s0 v1 (0 : Int))) := by kernel_rfl
theorem k35 (N : Nat) (s0 : List Int) (v1 : Int) : callF (E35) lv35 N en35 c35 (resOf Tryd.f35) 17 [.dv (.sl (.int .i64)) s0, .dv (.int .i64) v1] [] dec35 = m35 N s0 v1 := by rw [wm35]; simp only [m35, ql35a]
theorem ok35 (a : Y35) (h : ∀ s0 v1 r, a s0 v1 = some r → (∃ N, m35 N s0 v1 = some r)) : FnOk Tryd.prog 35 (F35 a) := by
 intro args Of x hx
 simp only [F35] at hx
 split at hx
 ·rename_i s0 v1
  obtain ⟨N, hN⟩ := h _ _ _ hx
  refine lifted (L := []) (rc := nrc) (fz := nfz) (fn := Tryd.f35) (by kernel_rfl) (by kernel_rfl) (by kernel_rfl) (by kernel_rfl) rfl ?_ ((k35 N _ _).trans hN) ?_
  ·intro p hp; cases hp
  ·intro l o hd
   simp only [dec35] at hd
   split at hd
   ·obtain rfl := Option.some.inj hd; exact ⟨rfl, rfl⟩
   ·cases hd
 ·cases hx
def E29 (a35 : Y35) : Env := mkE TI TY [(35, F35 a35)] nrc nfz
noncomputable def c29 : Code := bodyOf Tryd.f29
def lv29 : Nat → Option Norm := norms []
def en29 : End := ⟨[], ⟨[9], [], [], []⟩⟩
def dec29 (l : List TV) (o : List (Nat × TO)) : Option (Bool) := match l, o with | [.dv (.bool) x0], [] => some (x0) | _, _ => none
def m29 (a35 : Y35) (N : Nat) (s0 : List Int) (v1 : Int) : Option (Bool) :=
   (a35 s0 v1).bind fun r1 =>
   some (decide (r1 ≥ (0 : Int)))
theorem k29 (a35 : Y35) (N : Nat) (s0 : List Int) (v1 : Int) : callF (E29 a35) lv29 N en29 c29 (resOf Tryd.f29) 7 [.dv (.sl (.int .i64)) s0, .dv (.int .i64) v1] [] dec29 = m29 a35 N s0 v1 := by kernel_rfl
theorem ok29 (a35 : Y35) (h35 : FnOk Tryd.prog 35 (F35 a35)) (a : Y29) (h : ∀ s0 v1 r, a s0 v1 = some r → (∃ N, m29 a35 N s0 v1 = some r)) : FnOk Tryd.prog 29 (F29 a) := by
 intro args Of x hx
 simp only [F29] at hx
 split at hx
 ·rename_i s0 v1
  obtain ⟨N, hN⟩ := h _ _ _ hx
  refine lifted (L := [(35, F35 a35)]) (rc := nrc) (fz := nfz) (fn := Tryd.f29) (by kernel_rfl) (by kernel_rfl) (by kernel_rfl) (by kernel_rfl) rfl ?_ ((k29 a35 N _ _).trans hN) ?_
  ·intro p hp; simp only [List.mem_cons, List.not_mem_nil, or_false] at hp; rcases hp with rfl; exact h35
  ·intro l o hd
   simp only [dec29] at hd
   split at hd
   ·obtain rfl := Option.some.inj hd; exact ⟨rfl, rfl⟩
   ·cases hd
 ·cases hx
def E49 : Env := mkE TI TY [] nrc nfz
noncomputable def c49 : Code := bodyOf Tryd.f49
def nm49_0 : Norm := ⟨[2, 3, 8, 9, 10], [2, 3], [], []⟩
def nm49_1 : Norm := ⟨[2, 3, 8, 9, 10, 14, 15, 16], [2, 3], [], []⟩
def lv49 : Nat → Option Norm := norms [(3, nm49_0), (6, nm49_1)]
def en49 : End := ⟨[(31, .arr 8 (.int .u8))], ⟨[31], [], [], []⟩⟩
def dec49 (l : List TV) (o : List (Nat × TO)) : Option (List Int) := match l, o with | [.dv (.arr 8 (.int .u8)) x0], [] => some (x0) | _, _ => none
def Sl49b (words0 : List (List Int)) (t10_a : Int) (t16_b : Int) (o3_b : List (List Int)) : TS := ⟨slots 31 [(2, .ptr 2 0 []), (3, .ptr 3 0 []), (8, .dv (.sl (.sl (.int .i64))) words0), (9, .dv (.int .i64) (words0.length : Int)), (10, .dv (.int .i64) t10_a), (14, .dv (.sl (.int .i64)) (words0.getD t10_a.toNat ([] : List Int))), (15, .dv (.int .i64) ((words0.getD t10_a.toNat ([] : List Int)).length : Int)), (16, .dv (.int .i64) t16_b)], [(2, .row (.arr 8 (.int .u8)) ([([(0 : Int), (0 : Int), (0 : Int), (0 : Int), (0 : Int), (0 : Int), (0 : Int), (0 : Int)] : List Int)] : List (List Int))), (3, .row (.arr 8 (.int .u8)) o3_b)]⟩
def Sl49a (words0 : List (List Int)) (t10_a : Int) (o3_a : List (List Int)) : TS := ⟨slots 31 [(2, .ptr 2 0 []), (3, .ptr 3 0 []), (8, .dv (.sl (.sl (.int .i64))) words0), (9, .dv (.int .i64) (words0.length : Int)), (10, .dv (.int .i64) t10_a)], [(2, .row (.arr 8 (.int .u8)) ([([(0 : Int), (0 : Int), (0 : Int), (0 : Int), (0 : Int), (0 : Int), (0 : Int), (0 : Int)] : List Int)] : List (List Int))), (3, .row (.arr 8 (.int .u8)) o3_a)]⟩
noncomputable def K49_0 (N : Nat) : Kont (List Int) := kont (E49) lv49 N c49 [1, 1, 0, 1, 0] (fin TI en49 (resOf Tryd.f49) dec49)
noncomputable def R49_0 (N : Nat) (m : Nat) : TS → Option (List Int) := loopK (den (E49) lv49 N (sub c49 [1, 1, 0, 1, 0, 0])) (TS.norm nm49_0) (K49_0 N) m
noncomputable def K49_1 (N : Nat) (T49_0 : TS → Option (List Int)) : Kont (List Int) := kont (E49) lv49 N (sub c49 [1, 1, 0, 1, 0, 0]) [1, 1, 0, 0, 1, 1, 0] (kloop (TS.norm nm49_0) (K49_0 N) T49_0)
noncomputable def R49_1 (N : Nat) (T49_0 : TS → Option (List Int)) (m : Nat) : TS → Option (List Int) := loopK (den (E49) lv49 N (sub c49 [1, 1, 0, 1, 0, 0, 1, 1, 0, 0, 1, 1, 0, 0])) (TS.norm nm49_1) (K49_1 N T49_0) m
def l49b (N : Nat) (words0 : List (List Int)) (t10_a : Int) (rec_l49a : Int → (List (List Int)) → Option (List Int)) : Nat → Int → (List (List Int)) → Option (List Int)
 | 0, _, _ => none
 | n + 1, t16_b, o3_b => cond (decide (t16_b < ((words0.getD t10_a.toNat ([] : List Int)).length : Int))) (chk (decide (0 ≤ t16_b ∧ t16_b < ((words0.getD t10_a.toNat ([] : List Int)).length : Int))) (chk (decide (0 ≤ t16_b ∧ t16_b < (8 : Int))) (chk (decide (0 ≤ (words0.getD t10_a.toNat ([] : List Int)).getD t16_b.toNat (0 : Int))) (chk (decide (0 ≤ t16_b ∧ t16_b < (8 : Int))) (chk ((decide (t16_b.toNat < (o3_b.getD 0 ([(0 : Int), (0 : Int), (0 : Int), (0 : Int), (0 : Int), (0 : Int), (0 : Int), (0 : Int)] : List Int)).length)) && (true)) ((l49b N words0 t10_a rec_l49a n (w64 (t16_b + (1 : Int))) (o3_b.set 0 ((o3_b.getD 0 ([(0 : Int), (0 : Int), (0 : Int), (0 : Int), (0 : Int), (0 : Int), (0 : Int), (0 : Int)] : List Int)).set t16_b.toNat (bOr .u8 ((o3_b.getD 0 ([(0 : Int), (0 : Int), (0 : Int), (0 : Int), (0 : Int), (0 : Int), (0 : Int), (0 : Int)] : List Int)).getD t16_b.toNat (0 : Int)) (IntKind.wrap .u8 ((1 : Int) * 2 ^ min (Int.toNat ((words0.getD t10_a.toNat ([] : List Int)).getD t16_b.toNat (0 : Int))) 8))))))))))))
   ((rec_l49a (w64 (t10_a + (1 : Int))) o3_b))
theorem wl49b (N : Nat) (words0 : List (List Int)) (t10_a : Int) (T49_0 : TS → Option (List Int)) (m : Nat) (t16_b : Int) (o3_b : List (List Int)) : R49_1 N T49_0 (m + 1) (Sl49b words0 t10_a t16_b o3_b) = cond (decide (t16_b < ((words0.getD t10_a.toNat ([] : List Int)).length : Int))) (chk (decide (0 ≤ t16_b ∧ t16_b < ((words0.getD t10_a.toNat ([] : List Int)).length : Int))) (chk (decide (0 ≤ t16_b ∧ t16_b < (8 : Int))) (chk (decide (0 ≤ (words0.getD t10_a.toNat ([] : List Int)).getD t16_b.toNat (0 : Int))) (chk (decide (0 ≤ t16_b ∧ t16_b < (8 : Int))) (chk ((decide (t16_b.toNat < (o3_b.getD 0 ([(0 : Int), (0 : Int), (0 : Int), (0 : Int), (0 : Int), (0 : Int), (0 : Int), (0 : Int)] : List Int)).length)) && (true)) ((R49_1 N T49_0 m (Sl49b words0 t10_a (w64 (t16_b + (1 : Int))) (o3_b.set 0 ((o3_b.getD 0 ([(0 : Int), (0 : Int), (0 : Int), (0 : Int), (0 : Int), (0 : Int), (0 : Int), (0 : Int)] : List Int)).set t16_b.toNat (bOr .u8 ((o3_b.getD 0 ([(0 : Int), (0 : Int), (0 : Int), (0 : Int), (0 : Int), (0 : Int), (0 : Int), (0 : Int)] : List Int)).getD t16_b.toNat (0 : Int)) (IntKind.wrap .u8 ((1 : Int) * 2 ^ min (Int.toNat ((words0.getD t10_a.toNat ([] : List Int)).getD t16_b.toNat (0 : Int))) 8)))))))))))))
   ((T49_0 (Sl49a words0 (w64 (t10_a + (1 : Int))) o3_b))) := by kernel_rfl
theorem ql49b (N : Nat) (words0 : List (List Int)) (t10_a : Int) (T49_0 : TS → Option (List Int)) : ∀ (m : Nat) (t16_b : Int) (o3_b : List (List Int)), R49_1 N T49_0 m (Sl49b words0 t10_a t16_b o3_b) = l49b N words0 t10_a (fun y0 y1 => T49_0 (Sl49a words0 y0 y1)) m t16_b o3_b
        | 0, _, _ => rfl
        | m + 1, t16_b, o3_b => by rw [wl49b]; simp only [l49b, ql49b N words0 t10_a T49_0 m]
def l49a (N : Nat) (words0 : List (List Int)) : Nat → Int → (List (List Int)) → Option (List Int)
 | 0, _, _ => none
 | n + 1, t10_a, o3_a => cond (decide (t10_a < (words0.length : Int))) (chk (decide (0 ≤ t10_a ∧ t10_a < (words0.length : Int))) ((l49b N words0 t10_a (fun y0 y1 => (l49a N words0 n y0 y1)) N (0 : Int) o3_a)))
   (some (o3_a.getD 0 ([(0 : Int), (0 : Int), (0 : Int), (0 : Int), (0 : Int), (0 : Int), (0 : Int), (0 : Int)] : List Int)))
theorem wl49a (N : Nat) (words0 : List (List Int)) (m : Nat) (t10_a : Int) (o3_a : List (List Int)) : R49_0 N (m + 1) (Sl49a words0 t10_a o3_a) = cond (decide (t10_a < (words0.length : Int))) (chk (decide (0 ≤ t10_a ∧ t10_a < (words0.length : Int))) ((R49_1 N (R49_0 N m) N (Sl49b words0 t10_a (0 : Int) o3_a))))
   (some (o3_a.getD 0 ([(0 : Int), (0 : Int), (0 : Int), (0 : Int), (0 : Int), (0 : Int), (0 : Int), (0 : Int)] : List Int))) := by kernel_rfl
theorem ql49a (N : Nat) (words0 : List (List Int)) : ∀ (m : Nat) (t10_a : Int) (o3_a : List (List Int)), R49_0 N m (Sl49a words0 t10_a o3_a) = l49a N words0 m t10_a o3_a
        | 0, _, _ => rfl
        | m + 1, t10_a, o3_a => by rw [wl49a]; simp only [l49a, ql49b, ql49a N words0 m]
def m49 (N : Nat) (words0 : List (List Int)) : Option (List Int) :=
   (l49a N words0 N (0 : Int) ([([(0 : Int), (0 : Int), (0 : Int), (0 : Int), (0 : Int), (0 : Int), (0 : Int), (0 : Int)] : List Int)] : List (List Int)))
theorem wm49 (N : Nat) (words0 : List (List Int)) : callF (E49) lv49 N en49 c49 (resOf Tryd.f49) 30 [.dv (.sl (.sl (.int .i64))) words0] [] dec49 = (R49_0 N N (Sl49a words0 (0 : Int) ([([(0 : Int), (0 : Int), (0 : Int), (0 : Int), (0 : Int), (0 : Int), (0 : Int), (0 : Int)] : List Int)] : List (List Int)))) := by kernel_rfl
theorem k49 (N : Nat) (words0 : List (List Int)) : callF (E49) lv49 N en49 c49 (resOf Tryd.f49) 30 [.dv (.sl (.sl (.int .i64))) words0] [] dec49 = m49 N words0 := by rw [wm49]; simp only [m49, ql49a]
theorem ok49 (a : Y49) (h : ∀ words0 r, a words0 = some r → (∃ N, m49 N words0 = some r)) : FnOk Tryd.prog 49 (F49 a) := by
 intro args Of x hx
 simp only [F49] at hx
 split at hx
 ·rename_i words0
  obtain ⟨N, hN⟩ := h _ _ hx
  refine lifted (L := []) (rc := nrc) (fz := nfz) (fn := Tryd.f49) (by kernel_rfl) (by kernel_rfl) (by kernel_rfl) (by kernel_rfl) rfl ?_ ((k49 N _).trans hN) ?_
  ·intro p hp; cases hp
  ·intro l o hd
   simp only [dec49] at hd
   split at hd
   ·obtain rfl := Option.some.inj hd; exact ⟨rfl, rfl⟩
   ·cases hd
 ·cases hx
def E37 (a49 : Y49) : Env := mkE TI TY [(49, F49 a49)] nrc nfz
noncomputable def c37 : Code := bodyOf Tryd.f37
def nm37_0 : Norm := ⟨[2, 4, 5, 10, 11, 12], [2, 4, 5], [], []⟩
def nm37_1 : Norm := ⟨[2, 4, 5, 10, 11, 12, 22, 23], [2, 4, 5], [], []⟩
def lv37 : Nat → Option Norm := norms [(3, nm37_0), (6, nm37_1)]
def en37 : End := ⟨[(36, .arr 8 (.int .u8))], ⟨[36], [], [], []⟩⟩
def dec37 (l : List TV) (o : List (Nat × TO)) : Option (List Int) := match l, o with | [.dv (.arr 8 (.int .u8)) x0], [] => some (x0) | _, _ => none
def Sl37b (cx0 : Int × List (List Int) × Unit) (lx1 : List Int) (t12_a : Int) (r1 : List Int) (t23_b : Int) (o5_b : List (List Int)) : TS := ⟨slots 36 [(2, .ptr 2 0 []), (4, .ptr 4 0 []), (5, .ptr 5 0 []), (10, .dv (.sl (.int .i64)) lx1), (11, .dv (.int .i64) (lx1.length : Int)), (12, .dv (.int .i64) t12_a), (22, .dv (.arr 8 (.int .u8)) r1), (23, .dv (.int .i64) t23_b)], [(2, .row (.pair (.int .i64) (.pair (.sl (.sl (.int .i64))) (.unit))) ([cx0] : List Cd)), (4, .row (.arr 8 (.int .u8)) ([([(0 : Int), (0 : Int), (0 : Int), (0 : Int), (0 : Int), (0 : Int), (0 : Int), (0 : Int)] : List Int)] : List (List Int))), (5, .row (.arr 8 (.int .u8)) o5_b)]⟩
def Sl37a (cx0 : Int × List (List Int) × Unit) (lx1 : List Int) (t12_a : Int) (o5_a : List (List Int)) : TS := ⟨slots 36 [(2, .ptr 2 0 []), (4, .ptr 4 0 []), (5, .ptr 5 0 []), (10, .dv (.sl (.int .i64)) lx1), (11, .dv (.int .i64) (lx1.length : Int)), (12, .dv (.int .i64) t12_a)], [(2, .row (.pair (.int .i64) (.pair (.sl (.sl (.int .i64))) (.unit))) ([cx0] : List Cd)), (4, .row (.arr 8 (.int .u8)) ([([(0 : Int), (0 : Int), (0 : Int), (0 : Int), (0 : Int), (0 : Int), (0 : Int), (0 : Int)] : List Int)] : List (List Int))), (5, .row (.arr 8 (.int .u8)) o5_a)]⟩
noncomputable def K37_0 (a49 : Y49) (N : Nat) : Kont (List Int) := kont (E37 a49) lv37 N c37 [1, 1, 0, 1, 0] (fin TI en37 (resOf Tryd.f37) dec37)
noncomputable def R37_0 (a49 : Y49) (N : Nat) (m : Nat) : TS → Option (List Int) := loopK (den (E37 a49) lv37 N (sub c37 [1, 1, 0, 1, 0, 0])) (TS.norm nm37_0) (K37_0 a49 N) m
noncomputable def K37_1 (a49 : Y49) (N : Nat) (T37_0 : TS → Option (List Int)) : Kont (List Int) := kont (E37 a49) lv37 N (sub c37 [1, 1, 0, 1, 0, 0]) [1, 1, 0, 0, 1, 1, 0] (kloop (TS.norm nm37_0) (K37_0 a49 N) T37_0)
noncomputable def R37_1 (a49 : Y49) (N : Nat) (T37_0 : TS → Option (List Int)) (m : Nat) : TS → Option (List Int) := loopK (den (E37 a49) lv37 N (sub c37 [1, 1, 0, 1, 0, 0, 1, 1, 0, 0, 1, 1, 0, 0])) (TS.norm nm37_1) (K37_1 a49 N T37_0) m
def l37b (a49 : Y49) (N : Nat) (cx0 : Int × List (List Int) × Unit) (lx1 : List Int) (t12_a : Int) (r1 : List Int) (rec_l37a : Int → (List (List Int)) → Option (List Int)) : Nat → Int → (List (List Int)) → Option (List Int)
 | 0, _, _ => none
 | n + 1, t23_b, o5_b => cond (decide (t23_b < (8 : Int))) (chk (decide (0 ≤ t23_b ∧ t23_b < (8 : Int))) (chk (decide (0 ≤ t23_b ∧ t23_b < (8 : Int))) (chk (decide (0 ≤ t23_b ∧ t23_b < (8 : Int))) (chk ((decide (t23_b.toNat < (o5_b.getD 0 ([(0 : Int), (0 : Int), (0 : Int), (0 : Int), (0 : Int), (0 : Int), (0 : Int), (0 : Int)] : List Int)).length)) && (true)) ((l37b a49 N cx0 lx1 t12_a r1 rec_l37a n (w64 (t23_b + (1 : Int))) (o5_b.set 0 ((o5_b.getD 0 ([(0 : Int), (0 : Int), (0 : Int), (0 : Int), (0 : Int), (0 : Int), (0 : Int), (0 : Int)] : List Int)).set t23_b.toNat (bOr .u8 ((o5_b.getD 0 ([(0 : Int), (0 : Int), (0 : Int), (0 : Int), (0 : Int), (0 : Int), (0 : Int), (0 : Int)] : List Int)).getD t23_b.toNat (0 : Int)) (r1.getD t23_b.toNat (0 : Int)))))))))))
   ((rec_l37a (w64 (t12_a + (1 : Int))) o5_b))
theorem wl37b (a49 : Y49) (N : Nat) (cx0 : Int × List (List Int) × Unit) (lx1 : List Int) (t12_a : Int) (r1 : List Int) (T37_0 : TS → Option (List Int)) (m : Nat) (t23_b : Int) (o5_b : List (List Int)) : R37_1 a49 N T37_0 (m + 1) (Sl37b cx0 lx1 t12_a r1 t23_b o5_b) = cond (decide (t23_b < (8 : Int))) (chk (decide (0 ≤ t23_b ∧ t23_b < (8 : Int))) (chk (decide (0 ≤ t23_b ∧ t23_b < (8 : Int))) (chk (decide (0 ≤ t23_b ∧ t23_b < (8 : Int))) (chk ((decide (t23_b.toNat < (o5_b.getD 0 ([(0 : Int), (0 : Int), (0 : Int), (0 : Int), (0 : Int), (0 : Int), (0 : Int), (0 : Int)] : List Int)).length)) && (true)) ((R37_1 a49 N T37_0 m (Sl37b cx0 lx1 t12_a r1 (w64 (t23_b + (1 : Int))) (o5_b.set 0 ((o5_b.getD 0 ([(0 : Int), (0 : Int), (0 : Int), (0 : Int), (0 : Int), (0 : Int), (0 : Int), (0 : Int)] : List Int)).set t23_b.toNat (bOr .u8 ((o5_b.getD 0 ([(0 : Int), (0 : Int), (0 : Int), (0 : Int), (0 : Int), (0 : Int), (0 : Int), (0 : Int)] : List Int)).getD t23_b.toNat (0 : Int)) (r1.getD t23_b.toNat (0 : Int))))))))))))
   ((T37_0 (Sl37a cx0 lx1 (w64 (t12_a + (1 : Int))) o5_b))) := by kernel_rfl
theorem ql37b (a49 : Y49) (N : Nat) (cx0 : Int × List (List Int) × Unit) (lx1 : List Int) (t12_a : Int) (r1 : List Int) (T37_0 : TS → Option (List Int)) : ∀ (m : Nat) (t23_b : Int) (o5_b : List (List Int)), R37_1 a49 N T37_0 m (Sl37b cx0 lx1 t12_a r1 t23_b o5_b) = l37b a49 N cx0 lx1 t12_a r1 (fun y0 y1 => T37_0 (Sl37a cx0 lx1 y0 y1)) m t23_b o5_b
        | 0, _, _ => rfl
        | m + 1, t23_b, o5_b => by rw [wl37b]; simp only [l37b, ql37b a49 N cx0 lx1 t12_a r1 T37_0 m]
def l37a (a49 : Y49) (N : Nat) (cx0 : Int × List (List Int) × Unit) (lx1 : List Int) : Nat → Int → (List (List Int)) → Option (List Int)
 | 0, _, _ => none
 | n + 1, t12_a, o5_a => cond (decide (t12_a < (lx1.length : Int))) (chk (decide (0 ≤ t12_a ∧ t12_a < (lx1.length : Int))) (chk (decide (0 ≤ lx1.getD t12_a.toNat (0 : Int) ∧ lx1.getD t12_a.toNat (0 : Int) < (cx0.2.1.length : Int))) ((a49 ([cx0.2.1.getD ((lx1.getD t12_a.toNat (0 : Int)).toNat) ([] : List Int)] : List (List Int))).bind fun r1 =>
   (l37b a49 N cx0 lx1 t12_a r1 (fun y0 y1 => (l37a a49 N cx0 lx1 n y0 y1)) N (0 : Int) o5_a))))
   (some (o5_a.getD 0 ([(0 : Int), (0 : Int), (0 : Int), (0 : Int), (0 : Int), (0 : Int), (0 : Int), (0 : Int)] : List Int)))
theorem wl37a (a49 : Y49) (N : Nat) (cx0 : Int × List (List Int) × Unit) (lx1 : List Int) (m : Nat) (t12_a : Int) (o5_a : List (List Int)) : R37_0 a49 N (m + 1) (Sl37a cx0 lx1 t12_a o5_a) = cond (decide (t12_a < (lx1.length : Int))) (chk (decide (0 ≤ t12_a ∧ t12_a < (lx1.length : Int))) (chk (decide (0 ≤ lx1.getD t12_a.toNat (0 : Int) ∧ lx1.getD t12_a.toNat (0 : Int) < (cx0.2.1.length : Int))) ((a49 ([cx0.2.1.getD ((lx1.getD t12_a.toNat (0 : Int)).toNat) ([] : List Int)] : List (List Int))).bind fun r1 =>
   (R37_1 a49 N (R37_0 a49 N m) N (Sl37b cx0 lx1 t12_a r1 (0 : Int) o5_a)))))
   (some (o5_a.getD 0 ([(0 : Int), (0 : Int), (0 : Int), (0 : Int), (0 : Int), (0 : Int), (0 : Int), (0 : Int)] : List Int))) := by kernel_rfl
theorem ql37a (a49 : Y49) (N : Nat) (cx0 : Int × List (List Int) × Unit) (lx1 : List Int) : ∀ (m : Nat) (t12_a : Int) (o5_a : List (List Int)), R37_0 a49 N m (Sl37a cx0 lx1 t12_a o5_a) = l37a a49 N cx0 lx1 m t12_a o5_a
        | 0, _, _ => rfl
        | m + 1, t12_a, o5_a => by rw [wl37a]; simp only [l37a, ql37b, ql37a a49 N cx0 lx1 m]
def m37 (a49 : Y49) (N : Nat) (cx0 : Int × List (List Int) × Unit) (lx1 : List Int) : Option (List Int) :=
   (l37a a49 N cx0 lx1 N (0 : Int) ([([(0 : Int), (0 : Int), (0 : Int), (0 : Int), (0 : Int), (0 : Int), (0 : Int), (0 : Int)] : List Int)] : List (List Int)))
theorem wm37 (a49 : Y49) (N : Nat) (cx0 : Int × List (List Int) × Unit) (lx1 : List Int) : callF (E37 a49) lv37 N en37 c37 (resOf Tryd.f37) 34 [.dv (.pair (.int .i64) (.pair (.sl (.sl (.int .i64))) (.unit))) cx0, .dv (.sl (.int .i64)) lx1] [] dec37 = (R37_0 a49 N N (Sl37a cx0 lx1 (0 : Int) ([([(0 : Int), (0 : Int), (0 : Int), (0 : Int), (0 : Int), (0 : Int), (0 : Int), (0 : Int)] : List Int)] : List (List Int)))) := by kernel_rfl
theorem k37 (a49 : Y49) (N : Nat) (cx0 : Int × List (List Int) × Unit) (lx1 : List Int) : callF (E37 a49) lv37 N en37 c37 (resOf Tryd.f37) 34 [.dv (.pair (.int .i64) (.pair (.sl (.sl (.int .i64))) (.unit))) cx0, .dv (.sl (.int .i64)) lx1] [] dec37 = m37 a49 N cx0 lx1 := by rw [wm37]; simp only [m37, ql37a]
theorem ok37 (a49 : Y49) (h49 : FnOk Tryd.prog 49 (F49 a49)) (a : Y37) (h : ∀ cx0 lx1 r, a cx0 lx1 = some r → (∃ N, m37 a49 N cx0 lx1 = some r)) : FnOk Tryd.prog 37 (F37 a) := by
 intro args Of x hx
 simp only [F37] at hx
 split at hx
 ·rename_i cx0 lx1
  obtain ⟨N, hN⟩ := h _ _ _ hx
  refine lifted (L := [(49, F49 a49)]) (rc := nrc) (fz := nfz) (fn := Tryd.f37) (by kernel_rfl) (by kernel_rfl) (by kernel_rfl) (by kernel_rfl) rfl ?_ ((k37 a49 N _ _).trans hN) ?_
  ·intro p hp; simp only [List.mem_cons, List.not_mem_nil, or_false] at hp; rcases hp with rfl; exact h49
  ·intro l o hd
   simp only [dec37] at hd
   split at hd
   ·obtain rfl := Option.some.inj hd; exact ⟨rfl, rfl⟩
   ·cases hd
 ·cases hx
def E45 : Env := mkE TI TY [] nrc nfz
noncomputable def c45 : Code := bodyOf Tryd.f45
def nm45_0 : Norm := ⟨[2, 3, 4, 6], [2, 3, 4], [], []⟩
def lv45 : Nat → Option Norm := norms [(2, nm45_0)]
def en45 : End := ⟨[(19, .arr 8 (.int .u8))], ⟨[19], [], [], []⟩⟩
def dec45 (l : List TV) (o : List (Nat × TO)) : Option (List Int) := match l, o with | [.dv (.arr 8 (.int .u8)) x0], [] => some (x0) | _, _ => none
def Sl45a (b1 : List Int) (t6_a : Int) (o2_a : List (List Int)) : TS := ⟨slots 19 [(2, .ptr 2 0 []), (3, .ptr 3 0 []), (4, .ptr 4 0 []), (6, .dv (.int .i64) t6_a)], [(2, .row (.arr 8 (.int .u8)) o2_a), (3, .row (.arr 8 (.int .u8)) ([b1] : List (List Int))), (4, .row (.arr 8 (.int .u8)) ([([(0 : Int), (0 : Int), (0 : Int), (0 : Int), (0 : Int), (0 : Int), (0 : Int), (0 : Int)] : List Int)] : List (List Int)))]⟩
noncomputable def K45_0 (N : Nat) : Kont (List Int) := kont (E45) lv45 N c45 [1, 0, 1, 0] (fin TI en45 (resOf Tryd.f45) dec45)
noncomputable def R45_0 (N : Nat) (m : Nat) : TS → Option (List Int) := loopK (den (E45) lv45 N (sub c45 [1, 0, 1, 0, 0])) (TS.norm nm45_0) (K45_0 N) m
def l45a (N : Nat) (b1 : List Int) : Nat → Int → (List (List Int)) → Option (List Int)
 | 0, _, _ => none
 | n + 1, t6_a, o2_a => cond (decide (t6_a < (8 : Int))) (chk (decide (0 ≤ t6_a ∧ t6_a < (8 : Int))) (chk (decide (0 ≤ t6_a ∧ t6_a < (8 : Int))) (chk (decide (0 ≤ t6_a ∧ t6_a < (8 : Int))) (chk ((decide (t6_a.toNat < (o2_a.getD 0 ([(0 : Int), (0 : Int), (0 : Int), (0 : Int), (0 : Int), (0 : Int), (0 : Int), (0 : Int)] : List Int)).length)) && (true)) ((l45a N b1 n (w64 (t6_a + (1 : Int))) (o2_a.set 0 ((o2_a.getD 0 ([(0 : Int), (0 : Int), (0 : Int), (0 : Int), (0 : Int), (0 : Int), (0 : Int), (0 : Int)] : List Int)).set t6_a.toNat (bAnd .u8 ((o2_a.getD 0 ([(0 : Int), (0 : Int), (0 : Int), (0 : Int), (0 : Int), (0 : Int), (0 : Int), (0 : Int)] : List Int)).getD t6_a.toNat (0 : Int)) (b1.getD t6_a.toNat (0 : Int)))))))))))
   (some (o2_a.getD 0 ([(0 : Int), (0 : Int), (0 : Int), (0 : Int), (0 : Int), (0 : Int), (0 : Int), (0 : Int)] : List Int)))
theorem wl45a (N : Nat) (b1 : List Int) (m : Nat) (t6_a : Int) (o2_a : List (List Int)) : R45_0 N (m + 1) (Sl45a b1 t6_a o2_a) = cond (decide (t6_a < (8 : Int))) (chk (decide (0 ≤ t6_a ∧ t6_a < (8 : Int))) (chk (decide (0 ≤ t6_a ∧ t6_a < (8 : Int))) (chk (decide (0 ≤ t6_a ∧ t6_a < (8 : Int))) (chk ((decide (t6_a.toNat < (o2_a.getD 0 ([(0 : Int), (0 : Int), (0 : Int), (0 : Int), (0 : Int), (0 : Int), (0 : Int), (0 : Int)] : List Int)).length)) && (true)) ((R45_0 N m (Sl45a b1 (w64 (t6_a + (1 : Int))) (o2_a.set 0 ((o2_a.getD 0 ([(0 : Int), (0 : Int), (0 : Int), (0 : Int), (0 : Int), (0 : Int), (0 : Int), (0 : Int)] : List Int)).set t6_a.toNat (bAnd .u8 ((o2_a.getD 0 ([(0 : Int), (0 : Int), (0 : Int), (0 : Int), (0 : Int), (0 : Int), (0 : Int), (0 : Int)] : List Int)).getD t6_a.toNat (0 : Int)) (b1.getD t6_a.toNat (0 : Int))))))))))))
   (some (o2_a.getD 0 ([(0 : Int), (0 : Int), (0 : Int), (0 : Int), (0 : Int), (0 : Int), (0 : Int), (0 : Int)] : List Int))) := by kernel_rfl
theorem ql45a (N : Nat) (b1 : List Int) : ∀ (m : Nat) (t6_a : Int) (o2_a : List (List Int)), R45_0 N m (Sl45a b1 t6_a o2_a) = l45a N b1 m t6_a o2_a
        | 0, _, _ => rfl
        | m + 1, t6_a, o2_a => by rw [wl45a]; simp only [l45a, ql45a N b1 m]
def m45 (N : Nat) (ax0 : List Int) (b1 : List Int) : Option (List Int) :=
   (l45a N b1 N (0 : Int) ([ax0] : List (List Int)))
theorem wm45 (N : Nat) (ax0 : List Int) (b1 : List Int) : callF (E45) lv45 N en45 c45 (resOf Tryd.f45) 17 [.dv (.arr 8 (.int .u8)) ax0, .dv (.arr 8 (.int .u8)) b1] [] dec45 = (R45_0 N N (Sl45a b1 (0 : Int) ([ax0] : List (List Int)))) := by kernel_rfl
theorem k45 (N : Nat) (ax0 : List Int) (b1 : List Int) : callF (E45) lv45 N en45 c45 (resOf Tryd.f45) 17 [.dv (.arr 8 (.int .u8)) ax0, .dv (.arr 8 (.int .u8)) b1] [] dec45 = m45 N ax0 b1 := by rw [wm45]; simp only [m45, ql45a]
theorem ok45 (a : Y45) (h : ∀ ax0 b1 r, a ax0 b1 = some r → (∃ N, m45 N ax0 b1 = some r)) : FnOk Tryd.prog 45 (F45 a) := by
 intro args Of x hx
 simp only [F45] at hx
 split at hx
 ·rename_i ax0 b1
  obtain ⟨N, hN⟩ := h _ _ _ hx
  refine lifted (L := []) (rc := nrc) (fz := nfz) (fn := Tryd.f45) (by kernel_rfl) (by kernel_rfl) (by kernel_rfl) (by kernel_rfl) rfl ?_ ((k45 N _ _).trans hN) ?_
  ·intro p hp; cases hp
  ·intro l o hd
   simp only [dec45] at hd
   split at hd
   ·obtain rfl := Option.some.inj hd; exact ⟨rfl, rfl⟩
   ·cases hd
 ·cases hx
def E30 (a37 : Y37) (a45 : Y45) (a49 : Y49) : Env := mkE TI TY [(37, F37 a37), (45, F45 a45), (49, F49 a49)] nrc nfz
noncomputable def c30 : Code := bodyOf Tryd.f30
def lv30 : Nat → Option Norm := norms []
def en30 : End := ⟨[], ⟨[18], [], [], []⟩⟩
def dec30 (l : List TV) (o : List (Nat × TO)) : Option (Bool) := match l, o with | [.dv (.bool) x0], [] => some (x0) | _, _ => none
def m30 (a37 : Y37) (a45 : Y45) (a49 : Y49) (N : Nat) (cx0 : Int × List (List Int) × Unit) (lx1 : List Int) (wx2 : List Int) : Option (Bool) :=
   (a37 cx0 lx1).bind fun r1 =>
   (a49 ([wx2] : List (List Int))).bind fun r2 =>
   (a45 r1 r2).bind fun r3 =>
   (a49 ([wx2] : List (List Int))).bind fun r4 =>
   some (DT.beq (.arr 8 (.int .u8)) r3 r4)
theorem k30 (a37 : Y37) (a45 : Y45) (a49 : Y49) (N : Nat) (cx0 : Int × List (List Int) × Unit) (lx1 : List Int) (wx2 : List Int) : callF (E30 a37 a45 a49) lv30 N en30 c30 (resOf Tryd.f30) 15 [.dv (.pair (.int .i64) (.pair (.sl (.sl (.int .i64))) (.unit))) cx0, .dv (.sl (.int .i64)) lx1, .dv (.sl (.int .i64)) wx2] [] dec30 = m30 a37 a45 a49 N cx0 lx1 wx2 := by kernel_rfl
theorem ok30 (a37 : Y37) (a45 : Y45) (a49 : Y49) (h37 : FnOk Tryd.prog 37 (F37 a37)) (h45 : FnOk Tryd.prog 45 (F45 a45)) (h49 : FnOk Tryd.prog 49 (F49 a49)) (a : Y30) (h : ∀ cx0 lx1 wx2 r, a cx0 lx1 wx2 = some r → (∃ N, m30 a37 a45 a49 N cx0 lx1 wx2 = some r)) : FnOk Tryd.prog 30 (F30 a) := by
 intro args Of x hx
 simp only [F30] at hx
 split at hx
 ·rename_i cx0 lx1 wx2
  obtain ⟨N, hN⟩ := h _ _ _ _ hx
  refine lifted (L := [(37, F37 a37), (45, F45 a45), (49, F49 a49)]) (rc := nrc) (fz := nfz) (fn := Tryd.f30) (by kernel_rfl) (by kernel_rfl) (by kernel_rfl) (by kernel_rfl) rfl ?_ ((k30 a37 a45 a49 N _ _ _).trans hN) ?_
  ·intro p hp; simp only [List.mem_cons, List.not_mem_nil, or_false] at hp; rcases hp with rfl | rfl | rfl
   ·exact h37
   ·exact h45
   ·exact h49
  ·intro l o hd
   simp only [dec30] at hd
   split at hd
   ·obtain rfl := Option.some.inj hd; exact ⟨rfl, rfl⟩
   ·cases hd
 ·cases hx
def E10 (a22 : Y22) (a25 : Y25) (a27 : Y27) (a28 : Y28) (a29 : Y29) (a30 : Y30) : Env := mkEq TI TY [(22, F22 a22), (25, F25 a25), (27, F27 a27), (28, F28 a28), (29, F29 a29), (30, F30 a30)] (fun i => ([(4, [some (.nsl (.int .i64))])] : List (Nat × List (Option DT))).lookup i) nfz coalSeq
noncomputable def c10 : Code := bodyOf Tryd.f10
def nm10_0 : Norm := ⟨[2, 4, 5, 6, 22], [2, 4, 5], [], []⟩
def nm10_1 : Norm := ⟨[2, 4, 5, 7, 34, 35, 36], [2, 4, 5], [], []⟩
def lv10 : Nat → Option Norm := norms [(8, nm10_0), (10, nm10_1)]
def en10 : End := ⟨[(59, .sl (.int .i64))], ⟨[59, 60, 61], [], [], []⟩⟩
def dec10 (l : List TV) (o : List (Nat × TO)) : Option (List Int × Int × Int) := match l, o with | [.dv (.sl (.int .i64)) x0, .dv (.int .i64) x1, .dv (.int .i64) x2], [] => some (x0, x1, x2) | _, _ => none
def Sl10b (cx0 : Int × List (List Int) × Unit) (o4_af0 : Option (List Int)) (o5_af0 : Int) (e4a : List Int) (t36_b : Int) : TS := ⟨slots 59 [(2, .ptr 2 0 []), (4, .ptr 4 0 [0]), (5, .ptr 5 0 [0]), (7, .dv (.sl (.int .i64)) e4a), (34, .dv (.sl (.sl (.int .i64))) cx0.2.1), (35, .dv (.int .i64) (cx0.2.1.length : Int)), (36, .dv (.int .i64) t36_b)], [(2, .row (.pair (.int .i64) (.pair (.sl (.sl (.int .i64))) (.unit))) ([cx0] : List Cd)), (4, .rcd [.dv (.nsl (.int .i64)) o4_af0]), (5, .rcd [.dv (.int .i64) o5_af0])]⟩
def Sl10a (cx0 : Int × List (List Int) × Unit) (r1 : Int) (r3 : Int × Int × List (List Int) × Unit) (o4_af0 : Option (List Int)) (o5_af0 : Int) : TS := ⟨slots 59 [(2, .ptr 2 0 []), (4, .ptr 4 0 [0]), (5, .ptr 5 0 [0]), (6, .dv (.int .i64) r1), (22, .fn 42 0 2 fun i => ([.el (.int .i64) r3.1 [], .el (.pair (.int .i64) (.pair (.sl (.sl (.int .i64))) (.unit))) r3.2 []] : List TV).getD i .any)], [(2, .row (.pair (.int .i64) (.pair (.sl (.sl (.int .i64))) (.unit))) ([cx0] : List Cd)), (4, .rcd [.dv (.nsl (.int .i64)) o4_af0]), (5, .rcd [.dv (.int .i64) o5_af0])]⟩
noncomputable def K10_0 (a22 : Y22) (a25 : Y25) (a27 : Y27) (a28 : Y28) (a29 : Y29) (a30 : Y30) (N : Nat) : Kont (List Int × Int × Int) := kont (E10 a22 a25 a27 a28 a29 a30) lv10 N c10 [1, 1, 1, 0, 1, 0] (fin TI en10 (resOf Tryd.f10) dec10)
noncomputable def R10_0 (a22 : Y22) (a25 : Y25) (a27 : Y27) (a28 : Y28) (a29 : Y29) (a30 : Y30) (N : Nat) (xs : List (List Int)) : TS → Option (List Int × Int × Int) := seqK (β := List Int) (fun x s1 K => roundK (denP (E10 a22 a25 a27 a28 a29 a30) lv10 N (sub c10 [1, 1, 1, 0, 1, 0, 0])) (denP (E10 a22 a25 a27 a28 a29 a30) lv10 N (sub c10 [1, 1, 1, 0, 1, 0, 1])) 23 (.dv (.sl (.int .i64)) x) s1 K) (TS.norm nm10_0) (K10_0 a22 a25 a27 a28 a29 a30 N) xs
noncomputable def K10_1 (a22 : Y22) (a25 : Y25) (a27 : Y27) (a28 : Y28) (a29 : Y29) (a30 : Y30) (N : Nat) (cx0 : Int × List (List Int) × Unit) (r1 : Int) (r3 : Int × Int × List (List Int) × Unit) (o4_af0 : Option (List Int)) (o5_af0 : Int) (T10_0 : TS → Option (List Int × Int × Int)) : Kont (List Int × Int × Int) := kontP (E10 a22 a25 a27 a28 a29 a30) lv10 N [2, 4, 5] (sub c10 [1, 1, 1, 0, 1, 0, 1]) [0, 1, 1, 0] (kround (Sl10a cx0 r1 r3 o4_af0 o5_af0).sl (Sl10a cx0 r1 r3 o4_af0 o5_af0).ob (TS.norm nm10_0) (K10_0 a22 a25 a27 a28 a29 a30 N) T10_0)
noncomputable def R10_1 (a22 : Y22) (a25 : Y25) (a27 : Y27) (a28 : Y28) (a29 : Y29) (a30 : Y30) (N : Nat) (cx0 : Int × List (List Int) × Unit) (r1 : Int) (r3 : Int × Int × List (List Int) × Unit) (o4_af0 : Option (List Int)) (o5_af0 : Int) (T10_0 : TS → Option (List Int × Int × Int)) (m : Nat) : TS → Option (List Int × Int × Int) := loopK (denP (E10 a22 a25 a27 a28 a29 a30) lv10 N (sub c10 [1, 1, 1, 0, 1, 0, 1, 0, 1, 1, 0, 0]) [2, 4, 5]) (TS.normP [2, 4, 5] nm10_1) (K10_1 a22 a25 a27 a28 a29 a30 N cx0 r1 r3 o4_af0 o5_af0 T10_0) m
def l10b (a22 : Y22) (a25 : Y25) (a27 : Y27) (a28 : Y28) (a29 : Y29) (a30 : Y30) (N : Nat) (cx0 : Int × List (List Int) × Unit) (o4_af0 : Option (List Int)) (o5_af0 : Int) (e4a : List Int) (rec_l10a : (Option (List Int)) → Int → Option (List Int × Int × Int)) : Nat → Int → Option (List Int × Int × Int)
 | 0, _ => none
 | n + 1, t36_b => cond (decide (t36_b < (cx0.2.1.length : Int))) (chk (decide (0 ≤ t36_b ∧ t36_b < (cx0.2.1.length : Int))) ((a29 e4a t36_b).bind fun r5 =>
   cond (!r5) ((a30 cx0 e4a (cx0.2.1.getD t36_b.toNat ([] : List Int))).bind fun r6 =>
   cond (r6) (chk ((decide (0 < e4a.length)) && (true)) ((a27 (some e4a)).bind fun r7 =>
   chk (decide (0 < r7.length)) ((rec_l10a (some r7) t36_b))))
   ((l10b a22 a25 a27 a28 a29 a30 N cx0 o4_af0 o5_af0 e4a rec_l10a n (w64 (t36_b + (1 : Int))))))
   ((l10b a22 a25 a27 a28 a29 a30 N cx0 o4_af0 o5_af0 e4a rec_l10a n (w64 (t36_b + (1 : Int)))))))
   ((rec_l10a o4_af0 o5_af0))
theorem wl10b (a22 : Y22) (a25 : Y25) (a27 : Y27) (a28 : Y28) (a29 : Y29) (a30 : Y30) (N : Nat) (cx0 : Int × List (List Int) × Unit) (r1 : Int) (r3 : Int × Int × List (List Int) × Unit) (o4_af0 : Option (List Int)) (o5_af0 : Int) (e4a : List Int) (T10_0 : TS → Option (List Int × Int × Int)) (m : Nat) (t36_b : Int) : R10_1 a22 a25 a27 a28 a29 a30 N cx0 r1 r3 o4_af0 o5_af0 T10_0 (m + 1) (Sl10b cx0 o4_af0 o5_af0 e4a t36_b) = cond (decide (t36_b < (cx0.2.1.length : Int))) (chk (decide (0 ≤ t36_b ∧ t36_b < (cx0.2.1.length : Int))) ((a29 e4a t36_b).bind fun r5 =>
   cond (!r5) ((a30 cx0 e4a (cx0.2.1.getD t36_b.toNat ([] : List Int))).bind fun r6 =>
   cond (r6) (chk ((decide (0 < e4a.length)) && (true)) ((a27 (some e4a)).bind fun r7 =>
   chk (decide (0 < r7.length)) ((T10_0 (Sl10a cx0 r1 r3 (some r7) t36_b)))))
   ((R10_1 a22 a25 a27 a28 a29 a30 N cx0 r1 r3 o4_af0 o5_af0 T10_0 m (Sl10b cx0 o4_af0 o5_af0 e4a (w64 (t36_b + (1 : Int)))))))
   ((R10_1 a22 a25 a27 a28 a29 a30 N cx0 r1 r3 o4_af0 o5_af0 T10_0 m (Sl10b cx0 o4_af0 o5_af0 e4a (w64 (t36_b + (1 : Int))))))))
   ((T10_0 (Sl10a cx0 r1 r3 o4_af0 o5_af0))) := by kernel_rfl
theorem ql10b (a22 : Y22) (a25 : Y25) (a27 : Y27) (a28 : Y28) (a29 : Y29) (a30 : Y30) (N : Nat) (cx0 : Int × List (List Int) × Unit) (r1 : Int) (r3 : Int × Int × List (List Int) × Unit) (o4_af0 : Option (List Int)) (o5_af0 : Int) (e4a : List Int) (T10_0 : TS → Option (List Int × Int × Int)) : ∀ (m : Nat) (t36_b : Int), R10_1 a22 a25 a27 a28 a29 a30 N cx0 r1 r3 o4_af0 o5_af0 T10_0 m (Sl10b cx0 o4_af0 o5_af0 e4a t36_b) = l10b a22 a25 a27 a28 a29 a30 N cx0 o4_af0 o5_af0 e4a (fun y0 y1 => T10_0 (Sl10a cx0 r1 r3 y0 y1)) m t36_b
        | 0, _ => rfl
        | m + 1, t36_b => by rw [wl10b]; simp only [l10b, ql10b a22 a25 a27 a28 a29 a30 N cx0 r1 r3 o4_af0 o5_af0 e4a T10_0 m]
def l10a (a22 : Y22) (a25 : Y25) (a27 : Y27) (a28 : Y28) (a29 : Y29) (a30 : Y30) (N : Nat) (cx0 : Int × List (List Int) × Unit) (r1 : Int) (r3 : Int × Int × List (List Int) × Unit) : List (List Int) → (Option (List Int)) → Int → Option (List Int × Int × Int)
 | [], o4_af0, o5_af0 => cond (o4_af0.isNone) (some ((none : Option (List Int)).getD [], (0 : Int), (5 : Int)))
   (some (o4_af0.getD [], o5_af0, (0 : Int)))
 | e4a :: rr, o4_af0, o5_af0 => cond (!o4_af0.isNone) (cond (decide ((e4a.length : Int) ≥ ((o4_af0.getD []).length : Int))) ((l10a a22 a25 a27 a28 a29 a30 N cx0 r1 r3 rr o4_af0 o5_af0))
   ((l10b a22 a25 a27 a28 a29 a30 N cx0 o4_af0 o5_af0 e4a (fun y0 y1 => (l10a a22 a25 a27 a28 a29 a30 N cx0 r1 r3 rr y0 y1)) N (0 : Int))))
   ((l10b a22 a25 a27 a28 a29 a30 N cx0 o4_af0 o5_af0 e4a (fun y0 y1 => (l10a a22 a25 a27 a28 a29 a30 N cx0 r1 r3 rr y0 y1)) N (0 : Int)))
theorem wl10a_0 (a22 : Y22) (a25 : Y25) (a27 : Y27) (a28 : Y28) (a29 : Y29) (a30 : Y30) (N : Nat) (cx0 : Int × List (List Int) × Unit) (r1 : Int) (r3 : Int × Int × List (List Int) × Unit) (o4_af0 : Option (List Int)) (o5_af0 : Int) : R10_0 a22 a25 a27 a28 a29 a30 N [] (Sl10a cx0 r1 r3 o4_af0 o5_af0) = cond (o4_af0.isNone) (some ((none : Option (List Int)).getD [], (0 : Int), (5 : Int)))
   (some (o4_af0.getD [], o5_af0, (0 : Int))) := by kernel_rfl
theorem wl10a_1 (a22 : Y22) (a25 : Y25) (a27 : Y27) (a28 : Y28) (a29 : Y29) (a30 : Y30) (N : Nat) (cx0 : Int × List (List Int) × Unit) (r1 : Int) (r3 : Int × Int × List (List Int) × Unit) (e4a : List Int) (rr : List (List Int)) (o4_af0 : Option (List Int)) (o5_af0 : Int) : R10_0 a22 a25 a27 a28 a29 a30 N (e4a :: rr) (Sl10a cx0 r1 r3 o4_af0 o5_af0) = cond (!o4_af0.isNone) (cond (decide ((e4a.length : Int) ≥ ((o4_af0.getD []).length : Int))) ((R10_0 a22 a25 a27 a28 a29 a30 N rr (Sl10a cx0 r1 r3 o4_af0 o5_af0)))
   ((R10_1 a22 a25 a27 a28 a29 a30 N cx0 r1 r3 o4_af0 o5_af0 (R10_0 a22 a25 a27 a28 a29 a30 N rr) N (Sl10b cx0 o4_af0 o5_af0 e4a (0 : Int)))))
   ((R10_1 a22 a25 a27 a28 a29 a30 N cx0 r1 r3 o4_af0 o5_af0 (R10_0 a22 a25 a27 a28 a29 a30 N rr) N (Sl10b cx0 o4_af0 o5_af0 e4a (0 : Int)))) := by kernel_rfl
theorem ql10a (a22 : Y22) (a25 : Y25) (a27 : Y27) (a28 : Y28) (a29 : Y29) (a30 : Y30) (N : Nat) (cx0 : Int × List (List Int) × Unit) (r1 : Int) (r3 : Int × Int × List (List Int) × Unit) : ∀ (m : List (List Int)) (o4_af0 : Option (List Int)) (o5_af0 : Int), R10_0 a22 a25 a27 a28 a29 a30 N m (Sl10a cx0 r1 r3 o4_af0 o5_af0) = l10a a22 a25 a27 a28 a29 a30 N cx0 r1 r3 m o4_af0 o5_af0
        | [], o4_af0, o5_af0 => by rw [wl10a_0]; simp only [l10a]
        | e4a :: rr, o4_af0, o5_af0 => by rw [wl10a_1]; simp only [l10a, ql10b, ql10a a22 a25 a27 a28 a29 a30 N cx0 r1 r3 rr]
def m10 (a22 : Y22) (a25 : Y25) (a27 : Y27) (a28 : Y28) (a29 : Y29) (a30 : Y30) (N : Nat) (cx0 : Int × List (List Int) × Unit) (size1 : Int) : Option (List Int × Int × Int) :=
   (a22 cx0).bind fun r1 =>
   cond (r1 != (0 : Int)) (some ((none : Option (List Int)).getD [], (0 : Int), r1))
   ((a28 (1 : Int) size1 (10 : Int)).bind fun r2 =>
   cond (!r2) (some ((none : Option (List Int)).getD [], (0 : Int), (4 : Int)))
   ((a25 cx0 size1).bind fun r3 =>
   chk (decide (0 ≤ r3.1 ∧ ((List.length r3.2.2.1 : Nat) : Int) * 8 ≤ 140737488355328)) ((l10a a22 a25 a27 a28 a29 a30 N cx0 r1 r3 (gr (List.length r3.2.2.1) (Int.toNat r3.1) [] 0) (none : Option (List Int)) (0 : Int)))))
theorem wm10 (a22 : Y22) (a25 : Y25) (a27 : Y27) (a28 : Y28) (a29 : Y29) (a30 : Y30) (N : Nat) (cx0 : Int × List (List Int) × Unit) (size1 : Int) : callF (E10 a22 a25 a27 a28 a29 a30) lv10 N en10 c10 (resOf Tryd.f10) 57 [.dv (.pair (.int .i64) (.pair (.sl (.sl (.int .i64))) (.unit))) cx0, .dv (.int .i64) size1] [] dec10 = (a22 cx0).bind fun r1 =>
   cond (r1 != (0 : Int)) (some ((none : Option (List Int)).getD [], (0 : Int), r1))
   ((a28 (1 : Int) size1 (10 : Int)).bind fun r2 =>
   cond (!r2) (some ((none : Option (List Int)).getD [], (0 : Int), (4 : Int)))
   ((a25 cx0 size1).bind fun r3 =>
   chk (decide (0 ≤ r3.1 ∧ ((List.length r3.2.2.1 : Nat) : Int) * 8 ≤ 140737488355328)) ((R10_0 a22 a25 a27 a28 a29 a30 N (gr (List.length r3.2.2.1) (Int.toNat r3.1) [] 0) (Sl10a cx0 r1 r3 (none : Option (List Int)) (0 : Int)))))) := by kernel_rfl
theorem k10 (a22 : Y22) (a25 : Y25) (a27 : Y27) (a28 : Y28) (a29 : Y29) (a30 : Y30) (N : Nat) (cx0 : Int × List (List Int) × Unit) (size1 : Int) : callF (E10 a22 a25 a27 a28 a29 a30) lv10 N en10 c10 (resOf Tryd.f10) 57 [.dv (.pair (.int .i64) (.pair (.sl (.sl (.int .i64))) (.unit))) cx0, .dv (.int .i64) size1] [] dec10 = m10 a22 a25 a27 a28 a29 a30 N cx0 size1 := by rw [wm10]; simp only [m10, ql10a]
theorem ok10 (a22 : Y22) (a25 : Y25) (a27 : Y27) (a28 : Y28) (a29 : Y29) (a30 : Y30) (h22 : FnOk Tryd.prog 22 (F22 a22)) (h25 : FnOk Tryd.prog 25 (F25 a25)) (h27 : FnOk Tryd.prog 27 (F27 a27)) (h28 : FnOk Tryd.prog 28 (F28 a28)) (h29 : FnOk Tryd.prog 29 (F29 a29)) (h30 : FnOk Tryd.prog 30 (F30 a30)) (a : Y10) (h : ∀ cx0 size1 r, a cx0 size1 = some r → (∃ N, m10 a22 a25 a27 a28 a29 a30 N cx0 size1 = some r)) : FnOk Tryd.prog 10 (F10 a) := by
 intro args Of x hx
 simp only [F10] at hx
 split at hx
 ·rename_i cx0 size1
  obtain ⟨N, hN⟩ := h _ _ _ hx
  refine liftedQ (L := [(22, F22 a22), (25, F25 a25), (27, F27 a27), (28, F28 a28), (29, F29 a29), (30, F30 a30)]) (rc := (fun i => ([(4, [some (.nsl (.int .i64))])] : List (Nat × List (Option DT))).lookup i)) (fz := nfz) (fn := Tryd.f10) (by kernel_rfl) (by kernel_rfl) (by kernel_rfl) (by kernel_rfl) rfl ?_ coalSeq_ok ((k10 a22 a25 a27 a28 a29 a30 N _ _).trans hN) ?_
  ·intro p hp; simp only [List.mem_cons, List.not_mem_nil, or_false] at hp; rcases hp with rfl | rfl | rfl | rfl | rfl | rfl
   ·exact h22
   ·exact h25
   ·exact h27
   ·exact h28
   ·exact h29
   ·exact h30
  ·intro l o hd
   simp only [dec10] at hd
   split at hd
   ·obtain rfl := Option.some.inj hd; exact ⟨rfl, rfl⟩
   ·cases hd
 ·cases hx
def E11 : Env := mkE TI TY [] nrc nfz
noncomputable def c11 : Code := bodyOf Tryd.f11
def nm11_0 : Norm := ⟨[0, 1, 6, 7], [], [(.slot 5, 1005, .int .i64)], []⟩
def nm11_1 : Norm := ⟨[1, 8], [], [(.slot 5, 1005, .int .i64), (.slot 6, 1006, .int .i64)], []⟩
def lv11 : Nat → Option Norm := norms [(3, nm11_0), (7, nm11_1)]
def en11 : End := ⟨[(54, .sl (.int .i64))], ⟨[54], [], [], []⟩⟩
def dec11 (l : List TV) (o : List (Nat × TO)) : Option (List Int) := match l, o with | [.dv (.sl (.int .i64)) x0], [] => some (x0) | _, _ => none
def Sl11b (by1 : List Int) (k8_b : Int) (left5_b : List Int) (out6_b : List Int) : TS := ⟨slots 54 [(1, .dv (.sl (.int .u8)) by1), (5, .row 1005), (6, .row 1006), (8, .dv (.int .i64) k8_b)], [(1005, .row (.int .i64) left5_b), (1006, .row (.int .i64) out6_b)]⟩
def Sl11a (n0 : Int) (by1 : List Int) (i7_a : Int) (left5_a : List Int) : TS := ⟨slots 54 [(0, .dv (.int .i64) n0), (1, .dv (.sl (.int .u8)) by1), (5, .row 1005), (6, .nl), (7, .dv (.int .i64) i7_a)], [(1005, .row (.int .i64) left5_a)]⟩
noncomputable def K11_0 (N : Nat) : Kont (List Int) := kont (E11) lv11 N c11 [1, 1, 0, 1, 0] (fin TI en11 (resOf Tryd.f11) dec11)
noncomputable def R11_0 (N : Nat) (m : Nat) : TS → Option (List Int) := loopK (den (E11) lv11 N (sub c11 [1, 1, 0, 1, 0, 0])) (TS.norm nm11_0) (K11_0 N) m
noncomputable def K11_1 (N : Nat) : Kont (List Int) := kont (E11) lv11 N c11 [1, 1, 1, 0, 1, 0] (fin TI en11 (resOf Tryd.f11) dec11)
noncomputable def R11_1 (N : Nat) (m : Nat) : TS → Option (List Int) := loopK (den (E11) lv11 N (sub c11 [1, 1, 1, 0, 1, 0, 0])) (TS.norm nm11_1) (K11_1 N) m
def l11b (N : Nat) (by1 : List Int) : Nat → Int → (List Int) → (List Int) → Option (List Int)
 | 0, _, _, _ => none
 | n + 1, k8_b, left5_b, out6_b => cond (decide ((left5_b.length : Int) > (0 : Int))) (cond (decide (k8_b < (by1.length : Int))) (chk (decide (0 ≤ k8_b ∧ k8_b < (by1.length : Int))) (chk (decide ((left5_b.length : Int) ≠ (0 : Int))) (chk (decide (0 ≤ Int.tmod (w64 (by1.getD k8_b.toNat (0 : Int))) (left5_b.length : Int) ∧ Int.tmod (w64 (by1.getD k8_b.toNat (0 : Int))) (left5_b.length : Int) < (left5_b.length : Int))) (chk (small (out6_b.length + 1) 8) (chk (decide (0 ≤ Int.tmod (w64 (by1.getD k8_b.toNat (0 : Int))) (left5_b.length : Int) ∧ Int.tmod (w64 (by1.getD k8_b.toNat (0 : Int))) (left5_b.length : Int) ≤ (left5_b.length : Int))) (chk (small (0 + ((left5_b.take ((Int.tmod (w64 (by1.getD k8_b.toNat (0 : Int))) (left5_b.length : Int)).toNat)).drop 0).length) 8) (chk (decide (0 ≤ w64 ((Int.tmod (w64 (by1.getD k8_b.toNat (0 : Int))) (left5_b.length : Int)) + (1 : Int)) ∧ w64 ((Int.tmod (w64 (by1.getD k8_b.toNat (0 : Int))) (left5_b.length : Int)) + (1 : Int)) ≤ (left5_b.length : Int))) (chk (small ((([] : List Int) ++ ((left5_b.take ((Int.tmod (w64 (by1.getD k8_b.toNat (0 : Int))) (left5_b.length : Int)).toNat)).drop 0)).length + ((left5_b.take left5_b.length).drop ((w64 ((Int.tmod (w64 (by1.getD k8_b.toNat (0 : Int))) (left5_b.length : Int)) + (1 : Int))).toNat)).length) 8) ((l11b N by1 n (w64 (k8_b + (1 : Int))) ((([] : List Int) ++ ((left5_b.take ((Int.tmod (w64 (by1.getD k8_b.toNat (0 : Int))) (left5_b.length : Int)).toNat)).drop 0)) ++ ((left5_b.take left5_b.length).drop ((w64 ((Int.tmod (w64 (by1.getD k8_b.toNat (0 : Int))) (left5_b.length : Int)) + (1 : Int))).toNat))) (out6_b ++ ([left5_b.getD ((Int.tmod (w64 (by1.getD k8_b.toNat (0 : Int))) (left5_b.length : Int)).toNat) (0 : Int)] : List Int))))))))))))
   (chk (decide (0 ≤ (0 : Int) ∧ (0 : Int) < (left5_b.length : Int))) (chk (small (out6_b.length + 1) 8) (chk (decide (0 ≤ (0 : Int) ∧ (0 : Int) ≤ (left5_b.length : Int))) (chk (small (0 + ((left5_b.take 0).drop 0).length) 8) (chk (decide (0 ≤ (1 : Int) ∧ (1 : Int) ≤ (left5_b.length : Int))) (chk (small ((([] : List Int) ++ ((left5_b.take 0).drop 0)).length + ((left5_b.take left5_b.length).drop 1).length) 8) ((l11b N by1 n (w64 (k8_b + (1 : Int))) ((([] : List Int) ++ ((left5_b.take 0).drop 0)) ++ ((left5_b.take left5_b.length).drop 1)) (out6_b ++ ([left5_b.getD 0 (0 : Int)] : List Int)))))))))))
   (some out6_b)
theorem wl11b (N : Nat) (by1 : List Int) (m : Nat) (k8_b : Int) (left5_b : List Int) (out6_b : List Int) : R11_1 N (m + 1) (Sl11b by1 k8_b left5_b out6_b) = cond (decide ((left5_b.length : Int) > (0 : Int))) (cond (decide (k8_b < (by1.length : Int))) (chk (decide (0 ≤ k8_b ∧ k8_b < (by1.length : Int))) (chk (decide ((left5_b.length : Int) ≠ (0 : Int))) (chk (decide (0 ≤ Int.tmod (w64 (by1.getD k8_b.toNat (0 : Int))) (left5_b.length : Int) ∧ Int.tmod (w64 (by1.getD k8_b.toNat (0 : Int))) (left5_b.length : Int) < (left5_b.length : Int))) (chk (small (out6_b.length + 1) 8) (chk (decide (0 ≤ Int.tmod (w64 (by1.getD k8_b.toNat (0 : Int))) (left5_b.length : Int) ∧ Int.tmod (w64 (by1.getD k8_b.toNat (0 : Int))) (left5_b.length : Int) ≤ (left5_b.length : Int))) (chk (small (0 + ((left5_b.take ((Int.tmod (w64 (by1.getD k8_b.toNat (0 : Int))) (left5_b.length : Int)).toNat)).drop 0).length) 8) (chk (decide (0 ≤ w64 ((Int.tmod (w64 (by1.getD k8_b.toNat (0 : Int))) (left5_b.length : Int)) + (1 : Int)) ∧ w64 ((Int.tmod (w64 (by1.getD k8_b.toNat (0 : Int))) (left5_b.length : Int)) + (1 : Int)) ≤ (left5_b.length : Int))) (chk (small ((([] : List Int) ++ ((left5_b.take ((Int.tmod (w64 (by1.getD k8_b.toNat (0 : Int))) (left5_b.length : Int)).toNat)).drop 0)).length + ((left5_b.take left5_b.length).drop ((w64 ((Int.tmod (w64 (by1.getD k8_b.toNat (0 : Int))) (left5_b.length : Int)) + (1 : Int))).toNat)).length) 8) ((R11_1 N m (Sl11b by1 (w64 (k8_b + (1 : Int))) ((([] : List Int) ++ ((left5_b.take ((Int.tmod (w64 (by1.getD k8_b.toNat (0 : Int))) (left5_b.length : Int)).toNat)).drop 0)) ++ ((left5_b.take left5_b.length).drop ((w64 ((Int.tmod (w64 (by1.getD k8_b.toNat (0 : Int))) (left5_b.length : Int)) + (1 : Int))).toNat))) (out6_b ++ ([left5_b.getD ((Int.tmod (w64 (by1.getD k8_b.toNat (0 : Int))) (left5_b.length : Int)).toNat) (0 : Int)] : List Int)))))))))))))
   (chk (decide (0 ≤ (0 : Int) ∧ (0 : Int) < (left5_b.length : Int))) (chk (small (out6_b.length + 1) 8) (chk (decide (0 ≤ (0 : Int) ∧ (0 : Int) ≤ (left5_b.length : Int))) (chk (small (0 + ((left5_b.take 0).drop 0).length) 8) (chk (decide (0 ≤ (1 : Int) ∧ (1 : Int) ≤ (left5_b.length : Int))) (chk (small ((([] : List Int) ++ ((left5_b.take 0).drop 0)).length + ((left5_b.take left5_b.length).drop 1).length) 8) ((R11_1 N m (Sl11b by1 (w64 (k8_b + (1 : Int))) ((([] : List Int) ++ ((left5_b.take 0).drop 0)) ++ ((left5_b.take left5_b.length).drop 1)) (out6_b ++ ([left5_b.getD 0 (0 : Int)] : List Int))))))))))))
   (some out6_b) := by kernel_rfl
theorem ql11b (N : Nat) (by1 : List Int) : ∀ (m : Nat) (k8_b : Int) (left5_b : List Int) (out6_b : List Int), R11_1 N m (Sl11b by1 k8_b left5_b out6_b) = l11b N by1 m k8_b left5_b out6_b
        | 0, _, _, _ => rfl
        | m + 1, k8_b, left5_b, out6_b => by rw [wl11b]; simp only [l11b, ql11b N by1 m]
def l11a (N : Nat) (n0 : Int) (by1 : List Int) : Nat → Int → (List Int) → Option (List Int)
 | 0, _, _ => none
 | n + 1, i7_a, left5_a => cond (decide (i7_a < n0)) (chk (small (left5_a.length + 1) 8) ((l11a N n0 by1 n (w64 (i7_a + (1 : Int))) (left5_a ++ ([i7_a] : List Int)))))
   ((l11b N by1 N (0 : Int) left5_a ([] : List Int)))
theorem wl11a (N : Nat) (n0 : Int) (by1 : List Int) (m : Nat) (i7_a : Int) (left5_a : List Int) : R11_0 N (m + 1) (Sl11a n0 by1 i7_a left5_a) = cond (decide (i7_a < n0)) (chk (small (left5_a.length + 1) 8) ((R11_0 N m (Sl11a n0 by1 (w64 (i7_a + (1 : Int))) (left5_a ++ ([i7_a] : List Int))))))
   ((R11_1 N N (Sl11b by1 (0 : Int) left5_a ([] : List Int)))) := by kernel_rfl
theorem ql11a (N : Nat) (n0 : Int) (by1 : List Int) : ∀ (m : Nat) (i7_a : Int) (left5_a : List Int), R11_0 N m (Sl11a n0 by1 i7_a left5_a) = l11a N n0 by1 m i7_a left5_a
        | 0, _, _ => rfl
        | m + 1, i7_a, left5_a => by rw [wl11a]; simp only [l11a, ql11b, ql11a N n0 by1 m]
def m11 (N : Nat) (n0 : Int) (by1 : List Int) : Option (List Int) :=
   (l11a N n0 by1 N (0 : Int) ([] : List Int))
theorem wm11 (N : Nat) (n0 : Int) (by1 : List Int) : callF (E11) lv11 N en11 c11 (resOf Tryd.f11) 52 [.dv (.int .i64) n0, .dv (.sl (.int .u8)) by1] [] dec11 = (R11_0 N N (Sl11a n0 by1 (0 : Int) ([] : List Int))) := by kernel_rfl
theorem k11 (N : Nat) (n0 : Int) (by1 : List Int) : callF (E11) lv11 N en11 c11 (resOf Tryd.f11) 52 [.dv (.int .i64) n0, .dv (.sl (.int .u8)) by1] [] dec11 = m11 N n0 by1 := by rw [wm11]; simp only [m11, ql11a]
theorem ok11 (a : Y11) (h : ∀ n0 by1 r, a n0 by1 = some r → (∃ N, m11 N n0 by1 = some r)) : FnOk Tryd.prog 11 (F11 a) := by
 intro args Of x hx
 simp only [F11] at hx
 split at hx
 ·rename_i n0 by1
  obtain ⟨N, hN⟩ := h _ _ _ hx
  refine lifted (L := []) (rc := nrc) (fz := nfz) (fn := Tryd.f11) (by kernel_rfl) (by kernel_rfl) (by kernel_rfl) (by kernel_rfl) rfl ?_ ((k11 N _ _).trans hN) ?_
  ·intro p hp; cases hp
  ·intro l o hd
   simp only [dec11] at hd
   split at hd
   ·obtain rfl := Option.some.inj hd; exact ⟨rfl, rfl⟩
   ·cases hd
 ·cases hx
def E4 (a11 : Y11) : Env := mkE TI TY [(11, F11 a11)] nrc (fun i => ([19] : List Nat).contains i)
noncomputable def c4 : Code := bodyOf Tryd.f4
def nm4_0 : Norm := ⟨[0, 7, 8, 9, 21, 22], [19], [], []⟩
def nm4_1 : Norm := ⟨[0, 7, 8, 9, 10, 11, 21, 22], [19], [], []⟩
def lv4 : Nat → Option Norm := norms [(4, nm4_0), (7, nm4_1)]
def en4 : End := ⟨[(52, .sl (.sl (.int .i64)))], ⟨[52], [], [], []⟩⟩
def dec4 (l : List TV) (o : List (Nat × TO)) : Option (List (List Int)) := match l, o with | [.dv (.sl (.sl (.int .i64))) x0], [] => some (x0) | _, _ => none
def Sl4b (n0 : Int) (r1 : List Int) (r2 : List Int) (t22_a : Int) (d11_b : Int) (o19_b : List (List Int)) : TS := ⟨slots 52 [(0, .dv (.int .i64) n0), (7, .dv (.sl (.int .i64)) r1), (8, .dv (.sl (.int .i64)) r2), (9, .row 19), (10, .dv (.int .i64) t22_a), (11, .dv (.int .i64) d11_b), (21, .dv (.int .i64) ((List.replicate n0.toNat ([] : List Int)).length : Int)), (22, .dv (.int .i64) t22_a)], [(19, .mat (.int .i64) o19_b none)]⟩
def Sl4a (n0 : Int) (r1 : List Int) (r2 : List Int) (t22_a : Int) (o19_a : List (List Int)) : TS := ⟨slots 52 [(0, .dv (.int .i64) n0), (7, .dv (.sl (.int .i64)) r1), (8, .dv (.sl (.int .i64)) r2), (9, .row 19), (21, .dv (.int .i64) ((List.replicate n0.toNat ([] : List Int)).length : Int)), (22, .dv (.int .i64) t22_a)], [(19, .mat (.int .i64) o19_a none)]⟩
noncomputable def K4_0 (a11 : Y11) (N : Nat) : Kont (List (List Int)) := kont (E4 a11) lv4 N c4 [1, 1, 1, 0, 1, 0] (fin TI en4 (resOf Tryd.f4) dec4)
noncomputable def R4_0 (a11 : Y11) (N : Nat) (m : Nat) : TS → Option (List (List Int)) := loopK (den (E4 a11) lv4 N (sub c4 [1, 1, 1, 0, 1, 0, 0])) (TS.norm nm4_0) (K4_0 a11 N) m
noncomputable def K4_1 (a11 : Y11) (N : Nat) (T4_0 : TS → Option (List (List Int))) : Kont (List (List Int)) := kont (E4 a11) lv4 N (sub c4 [1, 1, 1, 0, 1, 0, 0]) [1, 1, 0, 0, 1, 1, 0] (kloop (TS.norm nm4_0) (K4_0 a11 N) T4_0)
noncomputable def R4_1 (a11 : Y11) (N : Nat) (T4_0 : TS → Option (List (List Int))) (m : Nat) : TS → Option (List (List Int)) := loopK (den (E4 a11) lv4 N (sub c4 [1, 1, 1, 0, 1, 0, 0, 1, 1, 0, 0, 1, 1, 0, 0])) (TS.norm nm4_1) (K4_1 a11 N T4_0) m
def l4b (a11 : Y11) (N : Nat) (n0 : Int) (r1 : List Int) (r2 : List Int) (t22_a : Int) (rec_l4a : Int → (List (List Int)) → Option (List (List Int))) : Nat → Int → (List (List Int)) → Option (List (List Int))
 | 0, _, _ => none
 | n + 1, d11_b, o19_b => cond (decide (d11_b < n0)) (chk (decide (0 ≤ t22_a ∧ t22_a < (o19_b.length : Int))) (chk (decide (0 ≤ t22_a ∧ t22_a < (r1.length : Int))) (chk (decide (n0 ≠ (0 : Int))) (chk (decide (0 ≤ Int.tmod (w64 ((r1.getD t22_a.toNat (0 : Int)) + d11_b)) n0 ∧ Int.tmod (w64 ((r1.getD t22_a.toNat (0 : Int)) + d11_b)) n0 < (r2.length : Int))) (chk (small ((o19_b.getD t22_a.toNat ([] : List Int)).length + 1) 8) (chk (decide (0 ≤ t22_a ∧ t22_a < (o19_b.length : Int))) (chk (decide (t22_a.toNat = t22_a.toNat)) ((l4b a11 N n0 r1 r2 t22_a rec_l4a n (w64 (d11_b + (1 : Int))) (o19_b.set t22_a.toNat ((o19_b.getD t22_a.toNat ([] : List Int)) ++ ([r2.getD ((Int.tmod (w64 ((r1.getD t22_a.toNat (0 : Int)) + d11_b)) n0).toNat) (0 : Int)] : List Int))))))))))))
   ((rec_l4a (w64 (t22_a + (1 : Int))) o19_b))
theorem wl4b (a11 : Y11) (N : Nat) (n0 : Int) (r1 : List Int) (r2 : List Int) (t22_a : Int) (T4_0 : TS → Option (List (List Int))) (m : Nat) (d11_b : Int) (o19_b : List (List Int)) : R4_1 a11 N T4_0 (m + 1) (Sl4b n0 r1 r2 t22_a d11_b o19_b) = cond (decide (d11_b < n0)) (chk (decide (0 ≤ t22_a ∧ t22_a < (o19_b.length : Int))) (chk (decide (0 ≤ t22_a ∧ t22_a < (r1.length : Int))) (chk (decide (n0 ≠ (0 : Int))) (chk (decide (0 ≤ Int.tmod (w64 ((r1.getD t22_a.toNat (0 : Int)) + d11_b)) n0 ∧ Int.tmod (w64 ((r1.getD t22_a.toNat (0 : Int)) + d11_b)) n0 < (r2.length : Int))) (chk (small ((o19_b.getD t22_a.toNat ([] : List Int)).length + 1) 8) (chk (decide (0 ≤ t22_a ∧ t22_a < (o19_b.length : Int))) (chk (decide (t22_a.toNat = t22_a.toNat)) ((R4_1 a11 N T4_0 m (Sl4b n0 r1 r2 t22_a (w64 (d11_b + (1 : Int))) (o19_b.set t22_a.toNat ((o19_b.getD t22_a.toNat ([] : List Int)) ++ ([r2.getD ((Int.tmod (w64 ((r1.getD t22_a.toNat (0 : Int)) + d11_b)) n0).toNat) (0 : Int)] : List Int)))))))))))))
   ((T4_0 (Sl4a n0 r1 r2 (w64 (t22_a + (1 : Int))) o19_b))) := by kernel_rfl
theorem ql4b (a11 : Y11) (N : Nat) (n0 : Int) (r1 : List Int) (r2 : List Int) (t22_a : Int) (T4_0 : TS → Option (List (List Int))) : ∀ (m : Nat) (d11_b : Int) (o19_b : List (List Int)), R4_1 a11 N T4_0 m (Sl4b n0 r1 r2 t22_a d11_b o19_b) = l4b a11 N n0 r1 r2 t22_a (fun y0 y1 => T4_0 (Sl4a n0 r1 r2 y0 y1)) m d11_b o19_b
        | 0, _, _ => rfl
        | m + 1, d11_b, o19_b => by rw [wl4b]; simp only [l4b, ql4b a11 N n0 r1 r2 t22_a T4_0 m]
def l4a (a11 : Y11) (N : Nat) (n0 : Int) (r1 : List Int) (r2 : List Int) : Nat → Int → (List (List Int)) → Option (List (List Int))
 | 0, _, _ => none
 | n + 1, t22_a, o19_a => cond (decide (t22_a < ((List.replicate n0.toNat ([] : List Int)).length : Int))) ((l4b a11 N n0 r1 r2 t22_a (fun y0 y1 => (l4a a11 N n0 r1 r2 n y0 y1)) N (0 : Int) o19_a))
   (some o19_a)
theorem wl4a (a11 : Y11) (N : Nat) (n0 : Int) (r1 : List Int) (r2 : List Int) (m : Nat) (t22_a : Int) (o19_a : List (List Int)) : R4_0 a11 N (m + 1) (Sl4a n0 r1 r2 t22_a o19_a) = cond (decide (t22_a < ((List.replicate n0.toNat ([] : List Int)).length : Int))) ((R4_1 a11 N (R4_0 a11 N m) N (Sl4b n0 r1 r2 t22_a (0 : Int) o19_a)))
   (some o19_a) := by kernel_rfl
theorem ql4a (a11 : Y11) (N : Nat) (n0 : Int) (r1 : List Int) (r2 : List Int) : ∀ (m : Nat) (t22_a : Int) (o19_a : List (List Int)), R4_0 a11 N m (Sl4a n0 r1 r2 t22_a o19_a) = l4a a11 N n0 r1 r2 m t22_a o19_a
        | 0, _, _ => rfl
        | m + 1, t22_a, o19_a => by rw [wl4a]; simp only [l4a, ql4b, ql4a a11 N n0 r1 r2 m]
def m4 (a11 : Y11) (N : Nat) (n0 : Int) (rows1 : List Int) (numbers2 : List Int) : Option (List (List Int)) :=
   (a11 n0 rows1).bind fun r1 =>
   (a11 n0 numbers2).bind fun r2 =>
   chk (mkOk n0 n0 24) ((l4a a11 N n0 r1 r2 N (0 : Int) (List.replicate n0.toNat ([] : List Int))))
theorem wm4 (a11 : Y11) (N : Nat) (n0 : Int) (rows1 : List Int) (numbers2 : List Int) : callF (E4 a11) lv4 N en4 c4 (resOf Tryd.f4) 49 [.dv (.int .i64) n0, .dv (.sl (.int .u8)) rows1, .dv (.sl (.int .u8)) numbers2] [] dec4 = (a11 n0 rows1).bind fun r1 =>
   (a11 n0 numbers2).bind fun r2 =>
   chk (mkOk n0 n0 24) ((R4_0 a11 N N (Sl4a n0 r1 r2 (0 : Int) (List.replicate n0.toNat ([] : List Int))))) := by kernel_rfl
theorem k4 (a11 : Y11) (N : Nat) (n0 : Int) (rows1 : List Int) (numbers2 : List Int) : callF (E4 a11) lv4 N en4 c4 (resOf Tryd.f4) 49 [.dv (.int .i64) n0, .dv (.sl (.int .u8)) rows1, .dv (.sl (.int .u8)) numbers2] [] dec4 = m4 a11 N n0 rows1 numbers2 := by rw [wm4]; simp only [m4, ql4a]
theorem ok4 (a11 : Y11) (h11 : FnOk Tryd.prog 11 (F11 a11)) (a : Y4) (h : ∀ n0 rows1 numbers2 r, a n0 rows1 numbers2 = some r → (∃ N, m4 a11 N n0 rows1 numbers2 = some r)) : FnOk Tryd.prog 4 (F4 a) := by
 intro args Of x hx
 simp only [F4] at hx
 split at hx
 ·rename_i n0 rows1 numbers2
  obtain ⟨N, hN⟩ := h _ _ _ _ hx
  refine lifted (L := [(11, F11 a11)]) (rc := nrc) (fz := (fun i => ([19] : List Nat).contains i)) (fn := Tryd.f4) (by kernel_rfl) (by kernel_rfl) (by kernel_rfl) (by kernel_rfl) rfl ?_ ((k4 a11 N _ _ _).trans hN) ?_
  ·intro p hp; simp only [List.mem_cons, List.not_mem_nil, or_false] at hp; rcases hp with rfl; exact h11
  ·intro l o hd
   simp only [dec4] at hd
   split at hd
   ·obtain rfl := Option.some.inj hd; exact ⟨rfl, rfl⟩
   ·cases hd
 ·cases hx
def E12 : Env := mkE TI TY [] nrc nfz
noncomputable def c12 : Code := bodyOf Tryd.f12
def lv12 : Nat → Option Norm := norms []
def en12 : End := ⟨[], ⟨[15], [], [], []⟩⟩
def dec12 (l : List TV) (o : List (Nat × TO)) : Option (Bool) := match l, o with | [.dv (.bool) x0], [] => some (x0) | _, _ => none
def m12 (N : Nat) (lo0 : Int) (n1 : Int) (hi2 : Int) : Option (Bool) :=
   cond (decide (lo0 ≤ n1)) (some (decide (n1 ≤ hi2)))
   (some false)
theorem k12 (N : Nat) (lo0 : Int) (n1 : Int) (hi2 : Int) : callF (E12) lv12 N en12 c12 (resOf Tryd.f12) 12 [.dv (.int .i64) lo0, .dv (.int .i64) n1, .dv (.int .i64) hi2] [] dec12 = m12 N lo0 n1 hi2 := by kernel_rfl
theorem ok12 (a : Y12) (h : ∀ lo0 n1 hi2 r, a lo0 n1 hi2 = some r → (∃ N, m12 N lo0 n1 hi2 = some r)) : FnOk Tryd.prog 12 (F12 a) := by
 intro args Of x hx
 simp only [F12] at hx
 split at hx
 ·rename_i lo0 n1 hi2
  obtain ⟨N, hN⟩ := h _ _ _ _ hx
  refine lifted (L := []) (rc := nrc) (fz := nfz) (fn := Tryd.f12) (by kernel_rfl) (by kernel_rfl) (by kernel_rfl) (by kernel_rfl) rfl ?_ ((k12 N _ _ _).trans hN) ?_
  ·intro p hp; cases hp
  ·intro l o hd
   simp only [dec12] at hd
   split at hd
   ·obtain rfl := Option.some.inj hd; exact ⟨rfl, rfl⟩
   ·cases hd
 ·cases hx
def E14c : Env := mkE TI TY [] nrc nfz
noncomputable def c14c : Code := bodyOf Tryd.f14
def lv14c : Nat → Option Norm := norms []
def en14c : End := ⟨[], ⟨[8], [9000], [], []⟩⟩
def dec14c (l : List TV) (o : List (Nat × TO)) : Option (Bool × Int) := match l, o with | [.dv (.bool) x0], [(9000, .rcd [.dv (.int .i64) x1])] => some (x0, x1) | _, _ => none
def m14c (N : Nat) (row0 : List Int) (p1 : Int) : Option (Bool × Int) :=
   some ((row0.length : Int) != p1, p1)
theorem k14c (N : Nat) (row0 : List Int) (p1 : Int) : callF (E14c) lv14c N en14c c14c (resOf Tryd.f14) 6 [.dv (.sl (.int .i64)) row0, .ptr 9000 0 [0]] [(9000, .rcd [.dv (.int .i64) p1])] dec14c = m14c N row0 p1 := by kernel_rfl
theorem ok14c (a : Y14c) (h : ∀ row0 p1 r, a row0 p1 = some r → (∃ N, m14c N row0 p1 = some r)) : FnOk Tryd.prog 14 (F14c a) := by
 intro args Of x hx
 simp only [F14c] at hx
 split at hx
 ·rename_i row0 p1
  obtain ⟨N, hN⟩ := h _ _ _ hx
  refine lifted (L := []) (rc := nrc) (fz := nfz) (fn := Tryd.f14) (by kernel_rfl) (by kernel_rfl) (by kernel_rfl) (by kernel_rfl) rfl ?_ ((k14c N _ _).trans hN) ?_
  ·intro p hp; cases hp
  ·intro l o hd
   simp only [dec14c] at hd
   split at hd
   ·obtain rfl := Option.some.inj hd; exact ⟨rfl, rfl⟩
   ·cases hd
 ·cases hx
def E31c14 (a14c : Y14c) : Env := mkE TI TY [(14, F14c a14c)] nrc nfz
noncomputable def c31c14 : Code := bodyOf Tryd.f31
def nm31c14_0 : Norm := ⟨[0, 1, 7, 8], [9000], [], []⟩
def lv31c14 : Nat → Option Norm := norms [(2, nm31c14_0)]
def en31c14 : End := ⟨[], ⟨[19], [9000], [], []⟩⟩
def dec31c14 (l : List TV) (o : List (Nat × TO)) : Option (Int × Int) := match l, o with | [.dv (.int .i64) x0], [(9000, .rcd [.dv (.int .i64) x1])] => some (x0, x1) | _, _ => none
def Sl31c14a (s0 : List (List Int)) (t8_a : Int) (o9000_af0 : Int) : TS := ⟨slots 19 [(0, .dv (.sl (.sl (.int .i64))) s0), (1, .fn 14 0 1 fun i => ([.ptr 9000 0 [0]] : List TV).getD i .any), (7, .dv (.int .i64) (s0.length : Int)), (8, .dv (.int .i64) t8_a)], [(9000, .rcd [.dv (.int .i64) o9000_af0])]⟩
noncomputable def K31c14_0 (a14c : Y14c) (N : Nat) : Kont (Int × Int) := kont (E31c14 a14c) lv31c14 N c31c14 [1, 0, 1, 0] (fin TI en31c14 (resOf Tryd.f31) dec31c14)
noncomputable def R31c14_0 (a14c : Y14c) (N : Nat) (m : Nat) : TS → Option (Int × Int) := loopK (den (E31c14 a14c) lv31c14 N (sub c31c14 [1, 0, 1, 0, 0])) (TS.norm nm31c14_0) (K31c14_0 a14c N) m
def l31c14a (a14c : Y14c) (N : Nat) (s0 : List (List Int)) : Nat → Int → Int → Option (Int × Int)
 | 0, _, _ => none
 | n + 1, t8_a, o9000_af0 => cond (decide (t8_a < (s0.length : Int))) (chk (decide (0 ≤ t8_a ∧ t8_a < (s0.length : Int))) ((a14c (s0.getD t8_a.toNat ([] : List Int)) o9000_af0).bind fun r1 =>
   cond (r1.1) (some (t8_a, r1.2))
   ((l31c14a a14c N s0 n (w64 (t8_a + (1 : Int))) r1.2))))
   (some ((-1 : Int), o9000_af0))
theorem wl31c14a (a14c : Y14c) (N : Nat) (s0 : List (List Int)) (m : Nat) (t8_a : Int) (o9000_af0 : Int) : R31c14_0 a14c N (m + 1) (Sl31c14a s0 t8_a o9000_af0) = cond (decide (t8_a < (s0.length : Int))) (chk (decide (0 ≤ t8_a ∧ t8_a < (s0.length : Int))) ((a14c (s0.getD t8_a.toNat ([] : List Int)) o9000_af0).bind fun r1 =>
   cond (r1.1) (some (t8_a, r1.2))
   ((R31c14_0 a14c N m (Sl31c14a s0 (w64 (t8_a + (1 : Int))) r1.2)))))
   (some ((-1 : Int), o9000_af0)) := by kernel_rfl
theorem ql31c14a (a14c : Y14c) (N : Nat) (s0 : List (List Int)) : ∀ (m : Nat) (t8_a : Int) (o9000_af0 : Int), R31c14_0 a14c N m (Sl31c14a s0 t8_a o9000_af0) = l31c14a a14c N s0 m t8_a o9000_af0
        | 0, _, _ => rfl
        | m + 1, t8_a, o9000_af0 => by rw [wl31c14a]; simp only [l31c14a, ql31c14a a14c N s0 m]
def m31c14 (a14c : Y14c) (N : Nat) (s0 : List (List Int)) (p1 : Int) : Option (Int × Int) :=
   (l31c14a a14c N s0 N (0 : Int) p1)
theorem wm31c14 (a14c : Y14c) (N : Nat) (s0 : List (List Int)) (p1 : Int) : callF (E31c14 a14c) lv31c14 N en31c14 c31c14 (resOf Tryd.f31) 17 [.dv (.sl (.sl (.int .i64))) s0, .fn 14 0 1 fun i => ([.ptr 9000 0 [0]] : List TV).getD i .any] [(9000, .rcd [.dv (.int .i64) p1])] dec31c14 = (R31c14_0 a14c N N (Sl31c14a s0 (0 : Int) p1)) := by kernel_rfl
theorem k31c14 (a14c : Y14c) (N : Nat) (s0 : List (List Int)) (p1 : Int) : callF (E31c14 a14c) lv31c14 N en31c14 c31c14 (resOf Tryd.f31) 17 [.dv (.sl (.sl (.int .i64))) s0, .fn 14 0 1 fun i => ([.ptr 9000 0 [0]] : List TV).getD i .any] [(9000, .rcd [.dv (.int .i64) p1])] dec31c14 = m31c14 a14c N s0 p1 := by rw [wm31c14]; simp only [m31c14, ql31c14a]
theorem ok31c14 (a14c : Y14c) (h14c : FnOk Tryd.prog 14 (F14c a14c)) (a : Y31c14) (h : ∀ s0 p1 r, a s0 p1 = some r → (∃ N, m31c14 a14c N s0 p1 = some r)) : FnOk Tryd.prog 31 (F31c14 a) := by
 intro args Of x hx
 simp only [F31c14] at hx
 split at hx
 ·rename_i s0 f_0 p1 heqc
  have hc0 := congrArg (fun c : List (List TV) => c.getD 0 []) heqc
  obtain ⟨N, hN⟩ := h _ _ _ hx
  refine HSpec.etaL (args := [.dv (.sl (.sl (.int .i64))) s0, .fn 14 0 1 fun i => ([.ptr 9000 0 [0]] : List TV).getD i .any]) (O := [(9000, .rcd [.dv (.int .i64) p1])]) ⟨TV.sim_refl _, TV.sim_fn hc0, trivial⟩ ⟨rfl, TO.sim_refl _, trivial⟩ (lifted (L := [(14, F14c a14c)]) (rc := nrc) (fz := nfz) (fn := Tryd.f31) (by kernel_rfl) (by kernel_rfl) (by kernel_rfl) (by kernel_rfl) rfl ?_ ((k31c14 a14c N _ _).trans hN) ?_)
  ·intro p hp; simp only [List.mem_cons, List.not_mem_nil, or_false] at hp; rcases hp with rfl; exact h14c
  ·intro l o hd
   simp only [dec31c14] at hd
   split at hd
   ·obtain rfl := Option.some.inj hd; exact ⟨rfl, rfl⟩
   ·cases hd
 ·cases hx
def E13c14 (a31c14 : Y31c14) : Env := mkE TI TY [(31, F31c14 a31c14)] nrc nfz
noncomputable def c13c14 : Code := bodyOf Tryd.f13
def lv13c14 : Nat → Option Norm := norms []
def en13c14 : End := ⟨[], ⟨[9], [9000], [], []⟩⟩
def dec13c14 (l : List TV) (o : List (Nat × TO)) : Option (Bool × Int) := match l, o with | [.dv (.bool) x0], [(9000, .rcd [.dv (.int .i64) x1])] => some (x0, x1) | _, _ => none
def m13c14 (a31c14 : Y31c14) (N : Nat) (s0 : List (List Int)) (p1 : Int) : Option (Bool × Int) :=
   (a31c14 s0 p1).bind fun r1 =>
   some (decide (r1.1 ≥ (0 : Int)), r1.2)
theorem k13c14 (a31c14 : Y31c14) (N : Nat) (s0 : List (List Int)) (p1 : Int) : callF (E13c14 a31c14) lv13c14 N en13c14 c13c14 (resOf Tryd.f13) 7 [.dv (.sl (.sl (.int .i64))) s0, .fn 14 0 1 fun i => ([.ptr 9000 0 [0]] : List TV).getD i .any] [(9000, .rcd [.dv (.int .i64) p1])] dec13c14 = m13c14 a31c14 N s0 p1 := by kernel_rfl
theorem ok13c14 (a31c14 : Y31c14) (h31c14 : FnOk Tryd.prog 31 (F31c14 a31c14)) (a : Y13c14) (h : ∀ s0 p1 r, a s0 p1 = some r → (∃ N, m13c14 a31c14 N s0 p1 = some r)) : FnOk Tryd.prog 13 (F13c14 a) := by
 intro args Of x hx
 simp only [F13c14] at hx
 split at hx
 ·rename_i s0 f_0 p1 heqc
  have hc0 := congrArg (fun c : List (List TV) => c.getD 0 []) heqc
  obtain ⟨N, hN⟩ := h _ _ _ hx
  refine HSpec.etaL (args := [.dv (.sl (.sl (.int .i64))) s0, .fn 14 0 1 fun i => ([.ptr 9000 0 [0]] : List TV).getD i .any]) (O := [(9000, .rcd [.dv (.int .i64) p1])]) ⟨TV.sim_refl _, TV.sim_fn hc0, trivial⟩ ⟨rfl, TO.sim_refl _, trivial⟩ (lifted (L := [(31, F31c14 a31c14)]) (rc := nrc) (fz := nfz) (fn := Tryd.f13) (by kernel_rfl) (by kernel_rfl) (by kernel_rfl) (by kernel_rfl) rfl ?_ ((k13c14 a31c14 N _ _).trans hN) ?_)
  ·intro p hp; simp only [List.mem_cons, List.not_mem_nil, or_false] at hp; rcases hp with rfl; exact h31c14
  ·intro l o hd
   simp only [dec13c14] at hd
   split at hd
   ·obtain rfl := Option.some.inj hd; exact ⟨rfl, rfl⟩
   ·cases hd
 ·cases hx
def E17c (a12 : Y12) : Env := mkE TI TY [(12, F12 a12)] nrc nfz
noncomputable def c17c : Code := bodyOf Tryd.f17
def lv17c : Nat → Option Norm := norms []
def en17c : End := ⟨[], ⟨[9], [9000], [], []⟩⟩
def dec17c (l : List TV) (o : List (Nat × TO)) : Option (Bool × Int) := match l, o with | [.dv (.bool) x0], [(9000, .rcd [.dv (.int .i64) x1])] => some (x0, x1) | _, _ => none
def m17c (a12 : Y12) (N : Nat) (x0 : Int) (p1 : Int) : Option (Bool × Int) :=
   (a12 (0 : Int) x0 (w64 (p1 - (1 : Int)))).bind fun r1 =>
   some (!r1, p1)
theorem k17c (a12 : Y12) (N : Nat) (x0 : Int) (p1 : Int) : callF (E17c a12) lv17c N en17c c17c (resOf Tryd.f17) 7 [.dv (.int .i64) x0, .ptr 9000 0 [0]] [(9000, .rcd [.dv (.int .i64) p1])] dec17c = m17c a12 N x0 p1 := by kernel_rfl
theorem ok17c (a12 : Y12) (h12 : FnOk Tryd.prog 12 (F12 a12)) (a : Y17c) (h : ∀ x0 p1 r, a x0 p1 = some r → (∃ N, m17c a12 N x0 p1 = some r)) : FnOk Tryd.prog 17 (F17c a) := by
 intro args Of x hx
 simp only [F17c] at hx
 split at hx
 ·rename_i x0 p1
  obtain ⟨N, hN⟩ := h _ _ _ hx
  refine lifted (L := [(12, F12 a12)]) (rc := nrc) (fz := nfz) (fn := Tryd.f17) (by kernel_rfl) (by kernel_rfl) (by kernel_rfl) (by kernel_rfl) rfl ?_ ((k17c a12 N _ _).trans hN) ?_
  ·intro p hp; simp only [List.mem_cons, List.not_mem_nil, or_false] at hp; rcases hp with rfl; exact h12
  ·intro l o hd
   simp only [dec17c] at hd
   split at hd
   ·obtain rfl := Option.some.inj hd; exact ⟨rfl, rfl⟩
   ·cases hd
 ·cases hx
def E32c17 (a17c : Y17c) : Env := mkE TI TY [(17, F17c a17c)] nrc nfz
noncomputable def c32c17 : Code := bodyOf Tryd.f32
def nm32c17_0 : Norm := ⟨[0, 1, 7, 8], [9000], [], []⟩
def lv32c17 : Nat → Option Norm := norms [(2, nm32c17_0)]
def en32c17 : End := ⟨[], ⟨[19], [9000], [], []⟩⟩
def dec32c17 (l : List TV) (o : List (Nat × TO)) : Option (Int × Int) := match l, o with | [.dv (.int .i64) x0], [(9000, .rcd [.dv (.int .i64) x1])] => some (x0, x1) | _, _ => none
def Sl32c17a (s0 : List Int) (t8_a : Int) (o9000_af0 : Int) : TS := ⟨slots 19 [(0, .dv (.sl (.int .i64)) s0), (1, .fn 17 0 1 fun i => ([.ptr 9000 0 [0]] : List TV).getD i .any), (7, .dv (.int .i64) (s0.length : Int)), (8, .dv (.int .i64) t8_a)], [(9000, .rcd [.dv (.int .i64) o9000_af0])]⟩
noncomputable def K32c17_0 (a17c : Y17c) (N : Nat) : Kont (Int × Int) := kont (E32c17 a17c) lv32c17 N c32c17 [1, 0, 1, 0] (fin TI en32c17 (resOf Tryd.f32) dec32c17)
noncomputable def R32c17_0 (a17c : Y17c) (N : Nat) (m : Nat) : TS → Option (Int × Int) := loopK (den (E32c17 a17c) lv32c17 N (sub c32c17 [1, 0, 1, 0, 0])) (TS.norm nm32c17_0) (K32c17_0 a17c N) m
def l32c17a (a17c : Y17c) (N : Nat) (s0 : List Int) : Nat → Int → Int → Option (Int × Int)
 | 0, _, _ => none
 | n + 1, t8_a, o9000_af0 => cond (decide (t8_a < (s0.length : Int))) (chk (decide (0 ≤ t8_a ∧ t8_a < (s0.length : Int))) ((a17c (s0.getD t8_a.toNat (0 : Int)) o9000_af0).bind fun r1 =>
   cond (r1.1) (some (t8_a, r1.2))
   ((l32c17a a17c N s0 n (w64 (t8_a + (1 : Int))) r1.2))))
   (some ((-1 : Int), o9000_af0))
theorem wl32c17a (a17c : Y17c) (N : Nat) (s0 : List Int) (m : Nat) (t8_a : Int) (o9000_af0 : Int) : R32c17_0 a17c N (m + 1) (Sl32c17a s0 t8_a o9000_af0) = cond (decide (t8_a < (s0.length : Int))) (chk (decide (0 ≤ t8_a ∧ t8_a < (s0.length : Int))) ((a17c (s0.getD t8_a.toNat (0 : Int)) o9000_af0).bind fun r1 =>
   cond (r1.1) (some (t8_a, r1.2))
   ((R32c17_0 a17c N m (Sl32c17a s0 (w64 (t8_a + (1 : Int))) r1.2)))))
   (some ((-1 : Int), o9000_af0)) := by kernel_rfl
theorem ql32c17a (a17c : Y17c) (N : Nat) (s0 : List Int) : ∀ (m : Nat) (t8_a : Int) (o9000_af0 : Int), R32c17_0 a17c N m (Sl32c17a s0 t8_a o9000_af0) = l32c17a a17c N s0 m t8_a o9000_af0
        | 0, _, _ => rfl
        | m + 1, t8_a, o9000_af0 => by rw [wl32c17a]; simp only [l32c17a, ql32c17a a17c N s0 m]
def m32c17 (a17c : Y17c) (N : Nat) (s0 : List Int) (p1 : Int) : Option (Int × Int) :=
   (l32c17a a17c N s0 N (0 : Int) p1)
theorem wm32c17 (a17c : Y17c) (N : Nat) (s0 : List Int) (p1 : Int) : callF (E32c17 a17c) lv32c17 N en32c17 c32c17 (resOf Tryd.f32) 17 [.dv (.sl (.int .i64)) s0, .fn 17 0 1 fun i => ([.ptr 9000 0 [0]] : List TV).getD i .any] [(9000, .rcd [.dv (.int .i64) p1])] dec32c17 = (R32c17_0 a17c N N (Sl32c17a s0 (0 : Int) p1)) := by kernel_rfl
theorem k32c17 (a17c : Y17c) (N : Nat) (s0 : List Int) (p1 : Int) : callF (E32c17 a17c) lv32c17 N en32c17 c32c17 (resOf Tryd.f32) 17 [.dv (.sl (.int .i64)) s0, .fn 17 0 1 fun i => ([.ptr 9000 0 [0]] : List TV).getD i .any] [(9000, .rcd [.dv (.int .i64) p1])] dec32c17 = m32c17 a17c N s0 p1 := by rw [wm32c17]; simp only [m32c17, ql32c17a]
theorem ok32c17 (a17c : Y17c) (h17c : FnOk Tryd.prog 17 (F17c a17c)) (a : Y32c17) (h : ∀ s0 p1 r, a s0 p1 = some r → (∃ N, m32c17 a17c N s0 p1 = some r)) : FnOk Tryd.prog 32 (F32c17 a) := by
 intro args Of x hx
 simp only [F32c17] at hx
 split at hx
 ·rename_i s0 f_0 p1 heqc
  have hc0 := congrArg (fun c : List (List TV) => c.getD 0 []) heqc
  obtain ⟨N, hN⟩ := h _ _ _ hx
  refine HSpec.etaL (args := [.dv (.sl (.int .i64)) s0, .fn 17 0 1 fun i => ([.ptr 9000 0 [0]] : List TV).getD i .any]) (O := [(9000, .rcd [.dv (.int .i64) p1])]) ⟨TV.sim_refl _, TV.sim_fn hc0, trivial⟩ ⟨rfl, TO.sim_refl _, trivial⟩ (lifted (L := [(17, F17c a17c)]) (rc := nrc) (fz := nfz) (fn := Tryd.f32) (by kernel_rfl) (by kernel_rfl) (by kernel_rfl) (by kernel_rfl) rfl ?_ ((k32c17 a17c N _ _).trans hN) ?_)
  ·intro p hp; simp only [List.mem_cons, List.not_mem_nil, or_false] at hp; rcases hp with rfl; exact h17c
  ·intro l o hd
   simp only [dec32c17] at hd
   split at hd
   ·obtain rfl := Option.some.inj hd; exact ⟨rfl, rfl⟩
   ·cases hd
 ·cases hx
def E15c17 (a32c17 : Y32c17) : Env := mkE TI TY [(32, F32c17 a32c17)] nrc nfz
noncomputable def c15c17 : Code := bodyOf Tryd.f15
def lv15c17 : Nat → Option Norm := norms []
def en15c17 : End := ⟨[], ⟨[9], [9000], [], []⟩⟩
def dec15c17 (l : List TV) (o : List (Nat × TO)) : Option (Bool × Int) := match l, o with | [.dv (.bool) x0], [(9000, .rcd [.dv (.int .i64) x1])] => some (x0, x1) | _, _ => none
def m15c17 (a32c17 : Y32c17) (N : Nat) (s0 : List Int) (p1 : Int) : Option (Bool × Int) :=
   (a32c17 s0 p1).bind fun r1 =>
   some (decide (r1.1 ≥ (0 : Int)), r1.2)
theorem k15c17 (a32c17 : Y32c17) (N : Nat) (s0 : List Int) (p1 : Int) : callF (E15c17 a32c17) lv15c17 N en15c17 c15c17 (resOf Tryd.f15) 7 [.dv (.sl (.int .i64)) s0, .fn 17 0 1 fun i => ([.ptr 9000 0 [0]] : List TV).getD i .any] [(9000, .rcd [.dv (.int .i64) p1])] dec15c17 = m15c17 a32c17 N s0 p1 := by kernel_rfl
theorem ok15c17 (a32c17 : Y32c17) (h32c17 : FnOk Tryd.prog 32 (F32c17 a32c17)) (a : Y15c17) (h : ∀ s0 p1 r, a s0 p1 = some r → (∃ N, m15c17 a32c17 N s0 p1 = some r)) : FnOk Tryd.prog 15 (F15c17 a) := by
 intro args Of x hx
 simp only [F15c17] at hx
 split at hx
 ·rename_i s0 f_0 p1 heqc
  have hc0 := congrArg (fun c : List (List TV) => c.getD 0 []) heqc
  obtain ⟨N, hN⟩ := h _ _ _ hx
  refine HSpec.etaL (args := [.dv (.sl (.int .i64)) s0, .fn 17 0 1 fun i => ([.ptr 9000 0 [0]] : List TV).getD i .any]) (O := [(9000, .rcd [.dv (.int .i64) p1])]) ⟨TV.sim_refl _, TV.sim_fn hc0, trivial⟩ ⟨rfl, TO.sim_refl _, trivial⟩ (lifted (L := [(32, F32c17 a32c17)]) (rc := nrc) (fz := nfz) (fn := Tryd.f15) (by kernel_rfl) (by kernel_rfl) (by kernel_rfl) (by kernel_rfl) rfl ?_ ((k15c17 a32c17 N _ _).trans hN) ?_)
  ·intro p hp; simp only [List.mem_cons, List.not_mem_nil, or_false] at hp; rcases hp with rfl; exact h32c17
  ·intro l o hd
   simp only [dec15c17] at hd
   split at hd
   ·obtain rfl := Option.some.inj hd; exact ⟨rfl, rfl⟩
   ·cases hd
 ·cases hx
def E33c : Env := mkE TI TY [] nrc (fun i => ([25] : List Nat).contains i)
noncomputable def c33c : Code := bodyOf Tryd.f33
def lv33c : Nat → Option Norm := norms []
def en33c : End := ⟨[], ⟨[], [], [(.slot 27, 1500, .int .i64)], []⟩⟩
def dec33c (l : List TV) (o : List (Nat × TO)) : Option (List Int) := match l, o with | [.row 1500], [(1500, .row (.int .i64) x0)] => some (x0) | _, _ => none
def m33c (N : Nat) (n1 : Int) : Option (List Int) :=
   cond (decide (n1 < (0 : Int))) (none)
   (cond (decide ((w64 (n1 - (0 : Int))) > (0 : Int))) (chk (decide ((0 : Int) < (w64 (n1 - (0 : Int)))) && mkOk (w64 (n1 - (0 : Int))) (w64 (n1 - (0 : Int))) 8) (chk (decide (0 ≤ (0 : Int) ∧ (0 : Int) ≤ ((List.replicate ((w64 (n1 - (0 : Int))).toNat) (0 : Int)).length : Int))) (some ((List.replicate ((w64 (n1 - (0 : Int))).toNat) (0 : Int)).take 0))))
   (some ([] : List Int)))
theorem k33c (N : Nat) (n1 : Int) : callF (E33c) lv33c N en33c c33c (resOf Tryd.f33) 25 [.nl, .dv (.int .i64) n1] [] dec33c = m33c N n1 := by kernel_rfl
theorem ok33c (a : Y33c) (h : ∀ n1 r, a n1 = some r → (∃ N, m33c N n1 = some r)) : FnOk Tryd.prog 33 (F33c a) := by
 intro args Of x hx
 simp only [F33c] at hx
 split at hx
 ·rename_i n1
  obtain ⟨N, hN⟩ := h _ _ hx
  refine lifted (L := []) (rc := nrc) (fz := (fun i => ([25] : List Nat).contains i)) (fn := Tryd.f33) (by kernel_rfl) (by kernel_rfl) (by kernel_rfl) (by kernel_rfl) rfl ?_ ((k33c N _).trans hN) ?_
  ·intro p hp; cases hp
  ·intro l o hd
   simp only [dec33c] at hd
   split at hd
   ·obtain rfl := Option.some.inj hd; exact ⟨rfl, rfl⟩
   ·cases hd
 ·cases hx
def E16 (a33c : Y33c) : Env := mkE TI TY [(33, F33c a33c)] nrc nfz
noncomputable def c16 : Code := bodyOf Tryd.f16
def nm16_0 : Norm := ⟨[0, 3, 9, 10, 11], [], [], []⟩
def nm16_1 : Norm := ⟨[25, 26, 27], [], [(.slot 6, 1006, .int .i64)], []⟩
def lv16 : Nat → Option Norm := norms [(3, nm16_0), (11, nm16_1)]
def en16 : End := ⟨[(36, .sl (.int .i64))], ⟨[36], [], [], []⟩⟩
def dec16 (l : List TV) (o : List (Nat × TO)) : Option (List Int) := match l, o with | [.dv (.sl (.int .i64)) x0], [] => some (x0) | _, _ => none
def Sl16b (slices0 : List (List Int)) (t27_b : Int) (newslice6_b : List Int) : TS := ⟨slots 36 [(6, .row 1006), (25, .dv (.sl (.sl (.int .i64))) slices0), (26, .dv (.int .i64) (slices0.length : Int)), (27, .dv (.int .i64) t27_b)], [(1006, .row (.int .i64) newslice6_b)]⟩
def Sl16a (slices0 : List (List Int)) (size3_a : Int) (t11_a : Int) : TS := ⟨slots 36 [(0, .dv (.sl (.sl (.int .i64))) slices0), (3, .dv (.int .i64) size3_a), (9, .dv (.sl (.sl (.int .i64))) slices0), (10, .dv (.int .i64) (slices0.length : Int)), (11, .dv (.int .i64) t11_a)], []⟩
noncomputable def K16_0 (a33c : Y33c) (N : Nat) : Kont (List Int) := kont (E16 a33c) lv16 N c16 [1, 1, 0, 1, 0] (fin TI en16 (resOf Tryd.f16) dec16)
noncomputable def R16_0 (a33c : Y33c) (N : Nat) (m : Nat) : TS → Option (List Int) := loopK (den (E16 a33c) lv16 N (sub c16 [1, 1, 0, 1, 0, 0])) (TS.norm nm16_0) (K16_0 a33c N) m
noncomputable def K16_1 (a33c : Y33c) (N : Nat) : Kont (List Int) := kont (E16 a33c) lv16 N c16 [1, 1, 1, 1, 0, 1, 0] (fin TI en16 (resOf Tryd.f16) dec16)
noncomputable def R16_1 (a33c : Y33c) (N : Nat) (m : Nat) : TS → Option (List Int) := loopK (den (E16 a33c) lv16 N (sub c16 [1, 1, 1, 1, 0, 1, 0, 0])) (TS.norm nm16_1) (K16_1 a33c N) m
def l16b (a33c : Y33c) (N : Nat) (slices0 : List (List Int)) : Nat → Int → (List Int) → Option (List Int)
 | 0, _, _ => none
 | n + 1, t27_b, newslice6_b => cond (decide (t27_b < (slices0.length : Int))) (chk (decide (0 ≤ t27_b ∧ t27_b < (slices0.length : Int))) (chk (small (newslice6_b.length + (slices0.getD t27_b.toNat ([] : List Int)).length) 8) ((l16b a33c N slices0 n (w64 (t27_b + (1 : Int))) (newslice6_b ++ (slices0.getD t27_b.toNat ([] : List Int)))))))
   (some newslice6_b)
theorem wl16b (a33c : Y33c) (N : Nat) (slices0 : List (List Int)) (m : Nat) (t27_b : Int) (newslice6_b : List Int) : R16_1 a33c N (m + 1) (Sl16b slices0 t27_b newslice6_b) = cond (decide (t27_b < (slices0.length : Int))) (chk (decide (0 ≤ t27_b ∧ t27_b < (slices0.length : Int))) (chk (small (newslice6_b.length + (slices0.getD t27_b.toNat ([] : List Int)).length) 8) ((R16_1 a33c N m (Sl16b slices0 (w64 (t27_b + (1 : Int))) (newslice6_b ++ (slices0.getD t27_b.toNat ([] : List Int))))))))
   (some newslice6_b) := by kernel_rfl
theorem ql16b (a33c : Y33c) (N : Nat) (slices0 : List (List Int)) : ∀ (m : Nat) (t27_b : Int) (newslice6_b : List Int), R16_1 a33c N m (Sl16b slices0 t27_b newslice6_b) = l16b a33c N slices0 m t27_b newslice6_b
        | 0, _, _ => rfl
        | m + 1, t27_b, newslice6_b => by rw [wl16b]; simp only [l16b, ql16b a33c N slices0 m]
def l16a (a33c : Y33c) (N : Nat) (slices0 : List (List Int)) : Nat → Int → Int → Option (List Int)
 | 0, _, _ => none
 | n + 1, size3_a, t11_a => cond (decide (t11_a < (slices0.length : Int))) (chk (decide (0 ≤ t11_a ∧ t11_a < (slices0.length : Int))) (cond (decide ((w64 (size3_a + ((slices0.getD t11_a.toNat ([] : List Int)).length : Int))) < (0 : Int))) (none)
   ((l16a a33c N slices0 n (w64 (size3_a + ((slices0.getD t11_a.toNat ([] : List Int)).length : Int))) (w64 (t11_a + (1 : Int)))))))
   ((a33c size3_a).bind fun r1 =>
   (l16b a33c N slices0 N (0 : Int) r1))
theorem wl16a (a33c : Y33c) (N : Nat) (slices0 : List (List Int)) (m : Nat) (size3_a : Int) (t11_a : Int) : R16_0 a33c N (m + 1) (Sl16a slices0 size3_a t11_a) = cond (decide (t11_a < (slices0.length : Int))) (chk (decide (0 ≤ t11_a ∧ t11_a < (slices0.length : Int))) (cond (decide ((w64 (size3_a + ((slices0.getD t11_a.toNat ([] : List Int)).length : Int))) < (0 : Int))) (none)
   ((R16_0 a33c N m (Sl16a slices0 (w64 (size3_a + ((slices0.getD t11_a.toNat ([] : List Int)).length : Int))) (w64 (t11_a + (1 : Int))))))))
   ((a33c size3_a).bind fun r1 =>
   (R16_1 a33c N N (Sl16b slices0 (0 : Int) r1))) := by kernel_rfl
theorem ql16a (a33c : Y33c) (N : Nat) (slices0 : List (List Int)) : ∀ (m : Nat) (size3_a : Int) (t11_a : Int), R16_0 a33c N m (Sl16a slices0 size3_a t11_a) = l16a a33c N slices0 m size3_a t11_a
        | 0, _, _ => rfl
        | m + 1, size3_a, t11_a => by rw [wl16a]; simp only [l16a, ql16b, ql16a a33c N slices0 m]
def m16 (a33c : Y33c) (N : Nat) (slices0 : List (List Int)) : Option (List Int) :=
   (l16a a33c N slices0 N (0 : Int) (0 : Int))
theorem wm16 (a33c : Y33c) (N : Nat) (slices0 : List (List Int)) : callF (E16 a33c) lv16 N en16 c16 (resOf Tryd.f16) 35 [.dv (.sl (.sl (.int .i64))) slices0] [] dec16 = (R16_0 a33c N N (Sl16a slices0 (0 : Int) (0 : Int))) := by kernel_rfl
theorem k16 (a33c : Y33c) (N : Nat) (slices0 : List (List Int)) : callF (E16 a33c) lv16 N en16 c16 (resOf Tryd.f16) 35 [.dv (.sl (.sl (.int .i64))) slices0] [] dec16 = m16 a33c N slices0 := by rw [wm16]; simp only [m16, ql16a]
theorem ok16 (a33c : Y33c) (h33c : FnOk Tryd.prog 33 (F33c a33c)) (a : Y16) (h : ∀ slices0 r, a slices0 = some r → (∃ N, m16 a33c N slices0 = some r)) : FnOk Tryd.prog 16 (F16 a) := by
 intro args Of x hx
 simp only [F16] at hx
 split at hx
 ·rename_i slices0
  obtain ⟨N, hN⟩ := h _ _ hx
  refine lifted (L := [(33, F33c a33c)]) (rc := nrc) (fz := nfz) (fn := Tryd.f16) (by kernel_rfl) (by kernel_rfl) (by kernel_rfl) (by kernel_rfl) rfl ?_ ((k16 a33c N _).trans hN) ?_
  ·intro p hp; simp only [List.mem_cons, List.not_mem_nil, or_false] at hp; rcases hp with rfl; exact h33c
  ·intro l o hd
   simp only [dec16] at hd
   split at hd
   ·obtain rfl := Option.some.inj hd; exact ⟨rfl, rfl⟩
   ·cases hd
 ·cases hx
def E18 : Env := mkE TI TY [] nrc nfz
noncomputable def c18 : Code := bodyOf Tryd.f18
def nm18_0 : Norm := ⟨[0, 3, 11, 12], [], [], []⟩
def nm18_1 : Norm := ⟨[0, 3, 4, 5, 6, 11, 12, 16, 17], [5, 6], [], []⟩
def lv18 : Nat → Option Norm := norms [(3, nm18_0), (7, nm18_1)]
def en18 : End := ⟨[], ⟨[49], [], [], []⟩⟩
def dec18 (l : List TV) (o : List (Nat × TO)) : Option (Bool) := match l, o with | [.dv (.bool) x0], [] => some (x0) | _, _ => none
def Sl18b (t0 : List (List Int)) (t12_a : Int) (twice3_b : Bool) (t17_b : Int) (o5_b : List (List Bool)) (o6_b : List (List Bool)) : TS := ⟨slots 49 [(0, .dv (.sl (.sl (.int .i64))) t0), (3, .dv (.bool) twice3_b), (4, .dv (.int .i64) t12_a), (5, .ptr 5 0 []), (6, .ptr 6 0 []), (11, .dv (.int .i64) (t0.length : Int)), (12, .dv (.int .i64) t12_a), (16, .dv (.int .i64) (t0.length : Int)), (17, .dv (.int .i64) t17_b)], [(5, .row (.arr 10 (.bool)) o5_b), (6, .row (.arr 10 (.bool)) o6_b)]⟩
def Sl18a (t0 : List (List Int)) (twice3_a : Bool) (t12_a : Int) : TS := ⟨slots 49 [(0, .dv (.sl (.sl (.int .i64))) t0), (3, .dv (.bool) twice3_a), (11, .dv (.int .i64) (t0.length : Int)), (12, .dv (.int .i64) t12_a)], []⟩
noncomputable def K18_0 (N : Nat) : Kont (Bool) := kont (E18) lv18 N c18 [1, 0, 1, 1, 0, 1, 0] (fin TI en18 (resOf Tryd.f18) dec18)
noncomputable def R18_0 (N : Nat) (m : Nat) : TS → Option (Bool) := loopK (den (E18) lv18 N (sub c18 [1, 0, 1, 1, 0, 1, 0, 0])) (TS.norm nm18_0) (K18_0 N) m
noncomputable def K18_1 (N : Nat) (T18_0 : TS → Option (Bool)) : Kont (Bool) := kont (E18) lv18 N (sub c18 [1, 0, 1, 1, 0, 1, 0, 0]) [1, 1, 0, 0, 1, 1, 1, 0] (kloop (TS.norm nm18_0) (K18_0 N) T18_0)
noncomputable def R18_1 (N : Nat) (T18_0 : TS → Option (Bool)) (m : Nat) : TS → Option (Bool) := loopK (den (E18) lv18 N (sub c18 [1, 0, 1, 1, 0, 1, 0, 0, 1, 1, 0, 0, 1, 1, 1, 0, 0])) (TS.norm nm18_1) (K18_1 N T18_0) m
def l18b (N : Nat) (t0 : List (List Int)) (t12_a : Int) (rec_l18a : Bool → Int → Option (Bool)) : Nat → Bool → Int → (List (List Bool)) → (List (List Bool)) → Option (Bool)
 | 0, _, _, _, _ => none
 | n + 1, twice3_b, t17_b, o5_b, o6_b => cond (decide (t17_b < (t0.length : Int))) (chk (decide (0 ≤ t12_a ∧ t12_a < (t0.length : Int))) (chk (decide (0 ≤ t17_b ∧ t17_b < ((t0.getD t12_a.toNat ([] : List Int)).length : Int))) (chk (decide (0 ≤ t17_b ∧ t17_b < (t0.length : Int))) (chk (decide (0 ≤ t12_a ∧ t12_a < ((t0.getD t17_b.toNat ([] : List Int)).length : Int))) (chk (decide (0 ≤ (t0.getD t12_a.toNat ([] : List Int)).getD t17_b.toNat (0 : Int) ∧ (t0.getD t12_a.toNat ([] : List Int)).getD t17_b.toNat (0 : Int) < (10 : Int))) (cond ((o5_b.getD 0 ([false, false, false, false, false, false, false, false, false, false] : List Bool)).getD (((t0.getD t12_a.toNat ([] : List Int)).getD t17_b.toNat (0 : Int)).toNat) false) (some true)
   (chk (decide (0 ≤ (t0.getD t17_b.toNat ([] : List Int)).getD t12_a.toNat (0 : Int) ∧ (t0.getD t17_b.toNat ([] : List Int)).getD t12_a.toNat (0 : Int) < (10 : Int))) (cond ((o6_b.getD 0 ([false, false, false, false, false, false, false, false, false, false] : List Bool)).getD (((t0.getD t17_b.toNat ([] : List Int)).getD t12_a.toNat (0 : Int)).toNat) false) (some true)
   (chk (decide (0 ≤ (t0.getD t12_a.toNat ([] : List Int)).getD t17_b.toNat (0 : Int) ∧ (t0.getD t12_a.toNat ([] : List Int)).getD t17_b.toNat (0 : Int) < (10 : Int))) (chk ((decide (((t0.getD t12_a.toNat ([] : List Int)).getD t17_b.toNat (0 : Int)).toNat < (o5_b.getD 0 ([false, false, false, false, false, false, false, false, false, false] : List Bool)).length)) && (true)) (chk (decide (0 ≤ (t0.getD t17_b.toNat ([] : List Int)).getD t12_a.toNat (0 : Int) ∧ (t0.getD t17_b.toNat ([] : List Int)).getD t12_a.toNat (0 : Int) < (10 : Int))) (chk ((decide (((t0.getD t17_b.toNat ([] : List Int)).getD t12_a.toNat (0 : Int)).toNat < (o6_b.getD 0 ([false, false, false, false, false, false, false, false, false, false] : List Bool)).length)) && (true)) ((l18b N t0 t12_a rec_l18a n twice3_b (w64 (t17_b + (1 : Int))) (o5_b.set 0 ((o5_b.getD 0 ([false, false, false, false, false, false, false, false, false, false] : List Bool)).set (((t0.getD t12_a.toNat ([] : List Int)).getD t17_b.toNat (0 : Int)).toNat) true)) (o6_b.set 0 ((o6_b.getD 0 ([false, false, false, false, false, false, false, false, false, false] : List Bool)).set (((t0.getD t17_b.toNat ([] : List Int)).getD t12_a.toNat (0 : Int)).toNat) true))))))))))))))))
   ((rec_l18a twice3_b (w64 (t12_a + (1 : Int)))))
theorem wl18b (N : Nat) (t0 : List (List Int)) (t12_a : Int) (T18_0 : TS → Option (Bool)) (m : Nat) (twice3_b : Bool) (t17_b : Int) (o5_b : List (List Bool)) (o6_b : List (List Bool)) : R18_1 N T18_0 (m + 1) (Sl18b t0 t12_a twice3_b t17_b o5_b o6_b) = cond (decide (t17_b < (t0.length : Int))) (chk (decide (0 ≤ t12_a ∧ t12_a < (t0.length : Int))) (chk (decide (0 ≤ t17_b ∧ t17_b < ((t0.getD t12_a.toNat ([] : List Int)).length : Int))) (chk (decide (0 ≤ t17_b ∧ t17_b < (t0.length : Int))) (chk (decide (0 ≤ t12_a ∧ t12_a < ((t0.getD t17_b.toNat ([] : List Int)).length : Int))) (chk (decide (0 ≤ (t0.getD t12_a.toNat ([] : List Int)).getD t17_b.toNat (0 : Int) ∧ (t0.getD t12_a.toNat ([] : List Int)).getD t17_b.toNat (0 : Int) < (10 : Int))) (cond ((o5_b.getD 0 ([false, false, false, false, false, false, false, false, false, false] : List Bool)).getD (((t0.getD t12_a.toNat ([] : List Int)).getD t17_b.toNat (0 : Int)).toNat) false) (some true)
   (chk (decide (0 ≤ (t0.getD t17_b.toNat ([] : List Int)).getD t12_a.toNat (0 : Int) ∧ (t0.getD t17_b.toNat ([] : List Int)).getD t12_a.toNat (0 : Int) < (10 : Int))) (cond ((o6_b.getD 0 ([false, false, false, false, false, false, false, false, false, false] : List Bool)).getD (((t0.getD t17_b.toNat ([] : List Int)).getD t12_a.toNat (0 : Int)).toNat) false) (some true)
   (chk (decide (0 ≤ (t0.getD t12_a.toNat ([] : List Int)).getD t17_b.toNat (0 : Int) ∧ (t0.getD t12_a.toNat ([] : List Int)).getD t17_b.toNat (0 : Int) < (10 : Int))) (chk ((decide (((t0.getD t12_a.toNat ([] : List Int)).getD t17_b.toNat (0 : Int)).toNat < (o5_b.getD 0 ([false, false, false, false, false, false, false, false, false, false] : List Bool)).length)) && (true)) (chk (decide (0 ≤ (t0.getD t17_b.toNat ([] : List Int)).getD t12_a.toNat (0 : Int) ∧ (t0.getD t17_b.toNat ([] : List Int)).getD t12_a.toNat (0 : Int) < (10 : Int))) (chk ((decide (((t0.getD t17_b.toNat ([] : List Int)).getD t12_a.toNat (0 : Int)).toNat < (o6_b.getD 0 ([false, false, false, false, false, false, false, false, false, false] : List Bool)).length)) && (true)) ((R18_1 N T18_0 m (Sl18b t0 t12_a twice3_b (w64 (t17_b + (1 : Int))) (o5_b.set 0 ((o5_b.getD 0 ([false, false, false, false, false, false, false, false, false, false] : List Bool)).set (((t0.getD t12_a.toNat ([] : List Int)).getD t17_b.toNat (0 : Int)).toNat) true)) (o6_b.set 0 ((o6_b.getD 0 ([false, false, false, false, false, false, false, false, false, false] : List Bool)).set (((t0.getD t17_b.toNat ([] : List Int)).getD t12_a.toNat (0 : Int)).toNat) true)))))))))))))))))
   ((T18_0 (Sl18a t0 twice3_b (w64 (t12_a + (1 : Int)))))) := by kernel_rfl
theorem ql18b (N : Nat) (t0 : List (List Int)) (t12_a : Int) (T18_0 : TS → Option (Bool)) : ∀ (m : Nat) (twice3_b : Bool) (t17_b : Int) (o5_b : List (List Bool)) (o6_b : List (List Bool)), R18_1 N T18_0 m (Sl18b t0 t12_a twice3_b t17_b o5_b o6_b) = l18b N t0 t12_a (fun y0 y1 => T18_0 (Sl18a t0 y0 y1)) m twice3_b t17_b o5_b o6_b
        | 0, _, _, _, _ => rfl
        | m + 1, twice3_b, t17_b, o5_b, o6_b => by rw [wl18b]; simp only [l18b, ql18b N t0 t12_a T18_0 m]
def l18a (N : Nat) (t0 : List (List Int)) : Nat → Bool → Int → Option (Bool)
 | 0, _, _ => none
 | n + 1, twice3_a, t12_a => cond (decide (t12_a < (t0.length : Int))) ((l18b N t0 t12_a (fun y0 y1 => (l18a N t0 n y0 y1)) N twice3_a (0 : Int) ([([false, false, false, false, false, false, false, false, false, false] : List Bool)] : List (List Bool)) ([([false, false, false, false, false, false, false, false, false, false] : List Bool)] : List (List Bool))))
   (some twice3_a)
theorem wl18a (N : Nat) (t0 : List (List Int)) (m : Nat) (twice3_a : Bool) (t12_a : Int) : R18_0 N (m + 1) (Sl18a t0 twice3_a t12_a) = cond (decide (t12_a < (t0.length : Int))) ((R18_1 N (R18_0 N m) N (Sl18b t0 t12_a twice3_a (0 : Int) ([([false, false, false, false, false, false, false, false, false, false] : List Bool)] : List (List Bool)) ([([false, false, false, false, false, false, false, false, false, false] : List Bool)] : List (List Bool)))))
   (some twice3_a) := by kernel_rfl
theorem ql18a (N : Nat) (t0 : List (List Int)) : ∀ (m : Nat) (twice3_a : Bool) (t12_a : Int), R18_0 N m (Sl18a t0 twice3_a t12_a) = l18a N t0 m twice3_a t12_a
        | 0, _, _ => rfl
        | m + 1, twice3_a, t12_a => by rw [wl18a]; simp only [l18a, ql18b, ql18a N t0 m]
def m18 (N : Nat) (t0 : List (List Int)) : Option (Bool) :=
   (l18a N t0 N false (0 : Int))
theorem wm18 (N : Nat) (t0 : List (List Int)) : callF (E18) lv18 N en18 c18 (resOf Tryd.f18) 48 [.dv (.sl (.sl (.int .i64))) t0] [] dec18 = (R18_0 N N (Sl18a t0 false (0 : Int))) := by kernel_rfl
theorem k18 (N : Nat) (t0 : List (List Int)) : callF (E18) lv18 N en18 c18 (resOf Tryd.f18) 48 [.dv (.sl (.sl (.int .i64))) t0] [] dec18 = m18 N t0 := by rw [wm18]; simp only [m18, ql18a]
theorem ok18 (a : Y18) (h : ∀ t0 r, a t0 = some r → (∃ N, m18 N t0 = some r)) : FnOk Tryd.prog 18 (F18 a) := by
 intro args Of x hx
 simp only [F18] at hx
 split at hx
 ·rename_i t0
  obtain ⟨N, hN⟩ := h _ _ hx
  refine lifted (L := []) (rc := nrc) (fz := nfz) (fn := Tryd.f18) (by kernel_rfl) (by kernel_rfl) (by kernel_rfl) (by kernel_rfl) rfl ?_ ((k18 N _).trans hN) ?_
  ·intro p hp; cases hp
  ·intro l o hd
   simp only [dec18] at hd
   split at hd
   ·obtain rfl := Option.some.inj hd; exact ⟨rfl, rfl⟩
   ·cases hd
 ·cases hx
def E5 (a12 : Y12) (a13c14 : Y13c14) (a15c17 : Y15c17) (a16 : Y16) (a18 : Y18) : Env := mkE TI TY [(12, F12 a12), (13, F13c14 a13c14), (15, F15c17 a15c17), (16, F16 a16), (18, F18 a18)] nrc nfz
noncomputable def c5 : Code := bodyOf Tryd.f5
def lv5 : Nat → Option Norm := norms []
def en5 : End := ⟨[], ⟨[23], [], [], []⟩⟩
def dec5 (l : List TV) (o : List (Nat × TO)) : Option (Int) := match l, o with | [.dv (.int .i64) x0], [] => some (x0) | _, _ => none
def m5 (a12 : Y12) (a13c14 : Y13c14) (a15c17 : Y15c17) (a16 : Y16) (a18 : Y18) (N : Nat) (table0 : List (List Int)) : Option (Int) :=
   (a12 (2 : Int) (table0.length : Int) (10 : Int)).bind fun r1 =>
   cond (!r1) (some (3 : Int))
   ((a13c14 table0 (table0.length : Int)).bind fun r2 =>
   cond (r2.1) (some (3 : Int))
   ((a16 table0).bind fun r3 =>
   (a15c17 r3 r2.2).bind fun r4 =>
   cond (r4.1) (some (4 : Int))
   ((a18 table0).bind fun r5 =>
   cond (r5) (some (6 : Int))
   (some (0 : Int)))))
theorem k5 (a12 : Y12) (a13c14 : Y13c14) (a15c17 : Y15c17) (a16 : Y16) (a18 : Y18) (N : Nat) (table0 : List (List Int)) : callF (E5 a12 a13c14 a15c17 a16 a18) lv5 N en5 c5 (resOf Tryd.f5) 22 [.dv (.sl (.sl (.int .i64))) table0] [] dec5 = m5 a12 a13c14 a15c17 a16 a18 N table0 := by kernel_rfl
theorem ok5 (a12 : Y12) (a13c14 : Y13c14) (a15c17 : Y15c17) (a16 : Y16) (a18 : Y18) (h12 : FnOk Tryd.prog 12 (F12 a12)) (h13c14 : FnOk Tryd.prog 13 (F13c14 a13c14)) (h15c17 : FnOk Tryd.prog 15 (F15c17 a15c17)) (h16 : FnOk Tryd.prog 16 (F16 a16)) (h18 : FnOk Tryd.prog 18 (F18 a18)) (a : Y5) (h : ∀ table0 r, a table0 = some r → (∃ N, m5 a12 a13c14 a15c17 a16 a18 N table0 = some r)) : FnOk Tryd.prog 5 (F5 a) := by
 intro args Of x hx
 simp only [F5] at hx
 split at hx
 ·rename_i table0
  obtain ⟨N, hN⟩ := h _ _ hx
  refine lifted (L := [(12, F12 a12), (13, F13c14 a13c14), (15, F15c17 a15c17), (16, F16 a16), (18, F18 a18)]) (rc := nrc) (fz := nfz) (fn := Tryd.f5) (by kernel_rfl) (by kernel_rfl) (by kernel_rfl) (by kernel_rfl) rfl ?_ ((k5 a12 a13c14 a15c17 a16 a18 N _).trans hN) ?_
  ·intro p hp; simp only [List.mem_cons, List.not_mem_nil, or_false] at hp; rcases hp with rfl | rfl | rfl | rfl | rfl
   ·exact h12
   ·exact h13c14
   ·exact h15c17
   ·exact h16
   ·exact h18
  ·intro l o hd
   simp only [dec5] at hd
   split at hd
   ·obtain rfl := Option.some.inj hd; exact ⟨rfl, rfl⟩
   ·cases hd
 ·cases hx
def E57c (a12 : Y12) : Env := mkE TI TY [(12, F12 a12)] nrc nfz
noncomputable def c57c : Code := bodyOf Tryd.f57
def lv57c : Nat → Option Norm := norms []
def en57c : End := ⟨[], ⟨[10], [9000], [], []⟩⟩
def dec57c (l : List TV) (o : List (Nat × TO)) : Option (Bool × List (List Int)) := match l, o with | [.dv (.bool) x0], [(9000, .rcd [.dv (.sl (.sl (.int .i64))) x1])] => some (x0, x1) | _, _ => none
def m57c (a12 : Y12) (N : Nat) (d0 : Int) (p1 : List (List Int)) : Option (Bool × List (List Int)) :=
   (a12 (0 : Int) d0 (w64 ((p1.length : Int) - (1 : Int)))).bind fun r1 =>
   some (!r1, p1)
theorem k57c (a12 : Y12) (N : Nat) (d0 : Int) (p1 : List (List Int)) : callF (E57c a12) lv57c N en57c c57c (resOf Tryd.f57) 8 [.dv (.int .i64) d0, .ptr 9000 0 [0]] [(9000, .rcd [.dv (.sl (.sl (.int .i64))) p1])] dec57c = m57c a12 N d0 p1 := by kernel_rfl
theorem ok57c (a12 : Y12) (h12 : FnOk Tryd.prog 12 (F12 a12)) (a : Y57c) (h : ∀ d0 p1 r, a d0 p1 = some r → (∃ N, m57c a12 N d0 p1 = some r)) : FnOk Tryd.prog 57 (F57c a) := by
 intro args Of x hx
 simp only [F57c] at hx
 split at hx
 ·rename_i d0 p1
  obtain ⟨N, hN⟩ := h _ _ _ hx
  refine lifted (L := [(12, F12 a12)]) (rc := nrc) (fz := nfz) (fn := Tryd.f57) (by kernel_rfl) (by kernel_rfl) (by kernel_rfl) (by kernel_rfl) rfl ?_ ((k57c a12 N _ _).trans hN) ?_
  ·intro p hp; simp only [List.mem_cons, List.not_mem_nil, or_false] at hp; rcases hp with rfl; exact h12
  ·intro l o hd
   simp only [dec57c] at hd
   split at hd
   ·obtain rfl := Option.some.inj hd; exact ⟨rfl, rfl⟩
   ·cases hd
 ·cases hx
def E32c57 (a57c : Y57c) : Env := mkE TI TY [(57, F57c a57c)] nrc nfz
noncomputable def c32c57 : Code := bodyOf Tryd.f32
def nm32c57_0 : Norm := ⟨[0, 1, 7, 8], [9000], [], []⟩
def lv32c57 : Nat → Option Norm := norms [(2, nm32c57_0)]
def en32c57 : End := ⟨[], ⟨[19], [9000], [], []⟩⟩
def dec32c57 (l : List TV) (o : List (Nat × TO)) : Option (Int × List (List Int)) := match l, o with | [.dv (.int .i64) x0], [(9000, .rcd [.dv (.sl (.sl (.int .i64))) x1])] => some (x0, x1) | _, _ => none
def Sl32c57a (s0 : List Int) (t8_a : Int) (o9000_af0 : List (List Int)) : TS := ⟨slots 19 [(0, .dv (.sl (.int .i64)) s0), (1, .fn 57 0 1 fun i => ([.ptr 9000 0 [0]] : List TV).getD i .any), (7, .dv (.int .i64) (s0.length : Int)), (8, .dv (.int .i64) t8_a)], [(9000, .rcd [.dv (.sl (.sl (.int .i64))) o9000_af0])]⟩
noncomputable def K32c57_0 (a57c : Y57c) (N : Nat) : Kont (Int × List (List Int)) := kont (E32c57 a57c) lv32c57 N c32c57 [1, 0, 1, 0] (fin TI en32c57 (resOf Tryd.f32) dec32c57)
noncomputable def R32c57_0 (a57c : Y57c) (N : Nat) (m : Nat) : TS → Option (Int × List (List Int)) := loopK (den (E32c57 a57c) lv32c57 N (sub c32c57 [1, 0, 1, 0, 0])) (TS.norm nm32c57_0) (K32c57_0 a57c N) m
def l32c57a (a57c : Y57c) (N : Nat) (s0 : List Int) : Nat → Int → (List (List Int)) → Option (Int × List (List Int))
 | 0, _, _ => none
 | n + 1, t8_a, o9000_af0 => cond (decide (t8_a < (s0.length : Int))) (chk (decide (0 ≤ t8_a ∧ t8_a < (s0.length : Int))) ((a57c (s0.getD t8_a.toNat (0 : Int)) o9000_af0).bind fun r1 =>
   cond (r1.1) (some (t8_a, r1.2))
   ((l32c57a a57c N s0 n (w64 (t8_a + (1 : Int))) r1.2))))
   (some ((-1 : Int), o9000_af0))
theorem wl32c57a (a57c : Y57c) (N : Nat) (s0 : List Int) (m : Nat) (t8_a : Int) (o9000_af0 : List (List Int)) : R32c57_0 a57c N (m + 1) (Sl32c57a s0 t8_a o9000_af0) = cond (decide (t8_a < (s0.length : Int))) (chk (decide (0 ≤ t8_a ∧ t8_a < (s0.length : Int))) ((a57c (s0.getD t8_a.toNat (0 : Int)) o9000_af0).bind fun r1 =>
   cond (r1.1) (some (t8_a, r1.2))
   ((R32c57_0 a57c N m (Sl32c57a s0 (w64 (t8_a + (1 : Int))) r1.2)))))
   (some ((-1 : Int), o9000_af0)) := by kernel_rfl
theorem ql32c57a (a57c : Y57c) (N : Nat) (s0 : List Int) : ∀ (m : Nat) (t8_a : Int) (o9000_af0 : List (List Int)), R32c57_0 a57c N m (Sl32c57a s0 t8_a o9000_af0) = l32c57a a57c N s0 m t8_a o9000_af0
        | 0, _, _ => rfl
        | m + 1, t8_a, o9000_af0 => by rw [wl32c57a]; simp only [l32c57a, ql32c57a a57c N s0 m]
def m32c57 (a57c : Y57c) (N : Nat) (s0 : List Int) (p1 : List (List Int)) : Option (Int × List (List Int)) :=
   (l32c57a a57c N s0 N (0 : Int) p1)
theorem wm32c57 (a57c : Y57c) (N : Nat) (s0 : List Int) (p1 : List (List Int)) : callF (E32c57 a57c) lv32c57 N en32c57 c32c57 (resOf Tryd.f32) 17 [.dv (.sl (.int .i64)) s0, .fn 57 0 1 fun i => ([.ptr 9000 0 [0]] : List TV).getD i .any] [(9000, .rcd [.dv (.sl (.sl (.int .i64))) p1])] dec32c57 = (R32c57_0 a57c N N (Sl32c57a s0 (0 : Int) p1)) := by kernel_rfl
theorem k32c57 (a57c : Y57c) (N : Nat) (s0 : List Int) (p1 : List (List Int)) : callF (E32c57 a57c) lv32c57 N en32c57 c32c57 (resOf Tryd.f32) 17 [.dv (.sl (.int .i64)) s0, .fn 57 0 1 fun i => ([.ptr 9000 0 [0]] : List TV).getD i .any] [(9000, .rcd [.dv (.sl (.sl (.int .i64))) p1])] dec32c57 = m32c57 a57c N s0 p1 := by rw [wm32c57]; simp only [m32c57, ql32c57a]
theorem ok32c57 (a57c : Y57c) (h57c : FnOk Tryd.prog 57 (F57c a57c)) (a : Y32c57) (h : ∀ s0 p1 r, a s0 p1 = some r → (∃ N, m32c57 a57c N s0 p1 = some r)) : FnOk Tryd.prog 32 (F32c57 a) := by
 intro args Of x hx
 simp only [F32c57] at hx
 split at hx
 ·rename_i s0 f_0 p1 heqc
  have hc0 := congrArg (fun c : List (List TV) => c.getD 0 []) heqc
  obtain ⟨N, hN⟩ := h _ _ _ hx
  refine HSpec.etaL (args := [.dv (.sl (.int .i64)) s0, .fn 57 0 1 fun i => ([.ptr 9000 0 [0]] : List TV).getD i .any]) (O := [(9000, .rcd [.dv (.sl (.sl (.int .i64))) p1])]) ⟨TV.sim_refl _, TV.sim_fn hc0, trivial⟩ ⟨rfl, TO.sim_refl _, trivial⟩ (lifted (L := [(57, F57c a57c)]) (rc := nrc) (fz := nfz) (fn := Tryd.f32) (by kernel_rfl) (by kernel_rfl) (by kernel_rfl) (by kernel_rfl) rfl ?_ ((k32c57 a57c N _ _).trans hN) ?_)
  ·intro p hp; simp only [List.mem_cons, List.not_mem_nil, or_false] at hp; rcases hp with rfl; exact h57c
  ·intro l o hd
   simp only [dec32c57] at hd
   split at hd
   ·obtain rfl := Option.some.inj hd; exact ⟨rfl, rfl⟩
   ·cases hd
 ·cases hx
def E15c57 (a32c57 : Y32c57) : Env := mkE TI TY [(32, F32c57 a32c57)] nrc nfz
noncomputable def c15c57 : Code := bodyOf Tryd.f15
def lv15c57 : Nat → Option Norm := norms []
def en15c57 : End := ⟨[], ⟨[9], [9000], [], []⟩⟩
def dec15c57 (l : List TV) (o : List (Nat × TO)) : Option (Bool × List (List Int)) := match l, o with | [.dv (.bool) x0], [(9000, .rcd [.dv (.sl (.sl (.int .i64))) x1])] => some (x0, x1) | _, _ => none
def m15c57 (a32c57 : Y32c57) (N : Nat) (s0 : List Int) (p1 : List (List Int)) : Option (Bool × List (List Int)) :=
   (a32c57 s0 p1).bind fun r1 =>
   some (decide (r1.1 ≥ (0 : Int)), r1.2)
theorem k15c57 (a32c57 : Y32c57) (N : Nat) (s0 : List Int) (p1 : List (List Int)) : callF (E15c57 a32c57) lv15c57 N en15c57 c15c57 (resOf Tryd.f15) 7 [.dv (.sl (.int .i64)) s0, .fn 57 0 1 fun i => ([.ptr 9000 0 [0]] : List TV).getD i .any] [(9000, .rcd [.dv (.sl (.sl (.int .i64))) p1])] dec15c57 = m15c57 a32c57 N s0 p1 := by kernel_rfl
theorem ok15c57 (a32c57 : Y32c57) (h32c57 : FnOk Tryd.prog 32 (F32c57 a32c57)) (a : Y15c57) (h : ∀ s0 p1 r, a s0 p1 = some r → (∃ N, m15c57 a32c57 N s0 p1 = some r)) : FnOk Tryd.prog 15 (F15c57 a) := by
 intro args Of x hx
 simp only [F15c57] at hx
 split at hx
 ·rename_i s0 f_0 p1 heqc
  have hc0 := congrArg (fun c : List (List TV) => c.getD 0 []) heqc
  obtain ⟨N, hN⟩ := h _ _ _ hx
  refine HSpec.etaL (args := [.dv (.sl (.int .i64)) s0, .fn 57 0 1 fun i => ([.ptr 9000 0 [0]] : List TV).getD i .any]) (O := [(9000, .rcd [.dv (.sl (.sl (.int .i64))) p1])]) ⟨TV.sim_refl _, TV.sim_fn hc0, trivial⟩ ⟨rfl, TO.sim_refl _, trivial⟩ (lifted (L := [(32, F32c57 a32c57)]) (rc := nrc) (fz := nfz) (fn := Tryd.f15) (by kernel_rfl) (by kernel_rfl) (by kernel_rfl) (by kernel_rfl) rfl ?_ ((k15c57 a32c57 N _ _).trans hN) ?_)
  ·intro p hp; simp only [List.mem_cons, List.not_mem_nil, or_false] at hp; rcases hp with rfl; exact h32c57
  ·intro l o hd
   simp only [dec15c57] at hd
   split at hd
   ·obtain rfl := Option.some.inj hd; exact ⟨rfl, rfl⟩
   ·cases hd
 ·cases hx
def E50 (a15c57 : Y15c57) (a5 : Y5) : Env := mkE TI TY [(15, F15c57 a15c57), (5, F5 a5)] nrc nfz
noncomputable def c50 : Code := bodyOf Tryd.f50
def lv50 : Nat → Option Norm := norms []
def en50 : End := ⟨[], ⟨[20], [], [], []⟩⟩
def dec50 (l : List TV) (o : List (Nat × TO)) : Option (Int) := match l, o with | [.dv (.int .i64) x0], [] => some (x0) | _, _ => none
def m50 (a15c57 : Y15c57) (a5 : Y5) (N : Nat) (t0 : List (List Int)) (lx1 : List Int) : Option (Int) :=
   (a5 t0).bind fun r1 =>
   cond (r1 != (0 : Int)) (some r1)
   (cond (decide ((lx1.length : Int) > (12 : Int))) (some (2 : Int))
   ((a15c57 lx1 t0).bind fun r2 =>
   cond (r2.1) (some (4 : Int))
   (some (0 : Int))))
theorem k50 (a15c57 : Y15c57) (a5 : Y5) (N : Nat) (t0 : List (List Int)) (lx1 : List Int) : callF (E50 a15c57 a5) lv50 N en50 c50 (resOf Tryd.f50) 18 [.dv (.sl (.sl (.int .i64))) t0, .dv (.sl (.int .i64)) lx1] [] dec50 = m50 a15c57 a5 N t0 lx1 := by kernel_rfl
theorem ok50 (a15c57 : Y15c57) (a5 : Y5) (h15c57 : FnOk Tryd.prog 15 (F15c57 a15c57)) (h5 : FnOk Tryd.prog 5 (F5 a5)) (a : Y50) (h : ∀ t0 lx1 r, a t0 lx1 = some r → (∃ N, m50 a15c57 a5 N t0 lx1 = some r)) : FnOk Tryd.prog 50 (F50 a) := by
 intro args Of x hx
 simp only [F50] at hx
 split at hx
 ·rename_i t0 lx1
  obtain ⟨N, hN⟩ := h _ _ _ hx
  refine lifted (L := [(15, F15c57 a15c57), (5, F5 a5)]) (rc := nrc) (fz := nfz) (fn := Tryd.f50) (by kernel_rfl) (by kernel_rfl) (by kernel_rfl) (by kernel_rfl) rfl ?_ ((k50 a15c57 a5 N _ _).trans hN) ?_
  ·intro p hp; simp only [List.mem_cons, List.not_mem_nil, or_false] at hp; rcases hp with rfl | rfl
   ·exact h15c57
   ·exact h5
  ·intro l o hd
   simp only [dec50] at hd
   split at hd
   ·obtain rfl := Option.some.inj hd; exact ⟨rfl, rfl⟩
   ·cases hd
 ·cases hx
def E59c : Env := mkE TI TY [] nrc nfz
noncomputable def c59c : Code := bodyOf Tryd.f59
def lv59c : Nat → Option Norm := norms []
def en59c : End := ⟨[], ⟨[13], [9000], [], []⟩⟩
def dec59c (l : List TV) (o : List (Nat × TO)) : Option (Int × List (List Int)) := match l, o with | [.dv (.int .i64) x0], [(9000, .rcd [.dv (.sl (.sl (.int .i64))) x1])] => some (x0, x1) | _, _ => none
def m59c (N : Nat) (s0 : Int) (d1 : Int) (p2 : List (List Int)) : Option (Int × List (List Int)) :=
   chk (decide (0 ≤ s0 ∧ s0 < (p2.length : Int))) (chk (decide (0 ≤ d1 ∧ d1 < ((p2.getD s0.toNat ([] : List Int)).length : Int))) (some ((p2.getD s0.toNat ([] : List Int)).getD d1.toNat (0 : Int), p2)))
theorem k59c (N : Nat) (s0 : Int) (d1 : Int) (p2 : List (List Int)) : callF (E59c) lv59c N en59c c59c (resOf Tryd.f59) 10 [.dv (.int .i64) s0, .dv (.int .i64) d1, .ptr 9000 0 [0]] [(9000, .rcd [.dv (.sl (.sl (.int .i64))) p2])] dec59c = m59c N s0 d1 p2 := by kernel_rfl
theorem ok59c (a : Y59c) (h : ∀ s0 d1 p2 r, a s0 d1 p2 = some r → (∃ N, m59c N s0 d1 p2 = some r)) : FnOk Tryd.prog 59 (F59c a) := by
 intro args Of x hx
 simp only [F59c] at hx
 split at hx
 ·rename_i s0 d1 p2
  obtain ⟨N, hN⟩ := h _ _ _ _ hx
  refine lifted (L := []) (rc := nrc) (fz := nfz) (fn := Tryd.f59) (by kernel_rfl) (by kernel_rfl) (by kernel_rfl) (by kernel_rfl) rfl ?_ ((k59c N _ _ _).trans hN) ?_
  ·intro p hp; cases hp
  ·intro l o hd
   simp only [dec59c] at hd
   split at hd
   ·obtain rfl := Option.some.inj hd; exact ⟨rfl, rfl⟩
   ·cases hd
 ·cases hx
def E58c59 (a59c : Y59c) : Env := mkE TI TY [(59, F59c a59c)] nrc nfz
noncomputable def c58c59 : Code := bodyOf Tryd.f58
def nm58c59_0 : Norm := ⟨[0, 2, 9, 10, 11], [9000], [], []⟩
def lv58c59 : Nat → Option Norm := norms [(2, nm58c59_0)]
def en58c59 : End := ⟨[], ⟨[21], [9000], [], []⟩⟩
def dec58c59 (l : List TV) (o : List (Nat × TO)) : Option (Int × List (List Int)) := match l, o with | [.dv (.int .i64) x0], [(9000, .rcd [.dv (.sl (.sl (.int .i64))) x1])] => some (x0, x1) | _, _ => none
def Sl58c59a (lx1 : List Int) (start0_a : Int) (t11_a : Int) (o9000_af0 : List (List Int)) : TS := ⟨slots 21 [(0, .dv (.int .i64) start0_a), (2, .fn 59 0 1 fun i => ([.ptr 9000 0 [0]] : List TV).getD i .any), (9, .dv (.sl (.int .i64)) lx1), (10, .dv (.int .i64) (lx1.length : Int)), (11, .dv (.int .i64) t11_a)], [(9000, .rcd [.dv (.sl (.sl (.int .i64))) o9000_af0])]⟩
noncomputable def K58c59_0 (a59c : Y59c) (N : Nat) : Kont (Int × List (List Int)) := kont (E58c59 a59c) lv58c59 N c58c59 [1, 0, 1, 0] (fin TI en58c59 (resOf Tryd.f58) dec58c59)
noncomputable def R58c59_0 (a59c : Y59c) (N : Nat) (m : Nat) : TS → Option (Int × List (List Int)) := loopK (den (E58c59 a59c) lv58c59 N (sub c58c59 [1, 0, 1, 0, 0])) (TS.norm nm58c59_0) (K58c59_0 a59c N) m
def l58c59a (a59c : Y59c) (N : Nat) (lx1 : List Int) : Nat → Int → Int → (List (List Int)) → Option (Int × List (List Int))
 | 0, _, _, _ => none
 | n + 1, start0_a, t11_a, o9000_af0 => cond (decide (t11_a < (lx1.length : Int))) (chk (decide (0 ≤ t11_a ∧ t11_a < (lx1.length : Int))) ((a59c start0_a (lx1.getD t11_a.toNat (0 : Int)) o9000_af0).bind fun r1 =>
   (l58c59a a59c N lx1 n r1.1 (w64 (t11_a + (1 : Int))) r1.2)))
   (some (start0_a, o9000_af0))
theorem wl58c59a (a59c : Y59c) (N : Nat) (lx1 : List Int) (m : Nat) (start0_a : Int) (t11_a : Int) (o9000_af0 : List (List Int)) : R58c59_0 a59c N (m + 1) (Sl58c59a lx1 start0_a t11_a o9000_af0) = cond (decide (t11_a < (lx1.length : Int))) (chk (decide (0 ≤ t11_a ∧ t11_a < (lx1.length : Int))) ((a59c start0_a (lx1.getD t11_a.toNat (0 : Int)) o9000_af0).bind fun r1 =>
   (R58c59_0 a59c N m (Sl58c59a lx1 r1.1 (w64 (t11_a + (1 : Int))) r1.2))))
   (some (start0_a, o9000_af0)) := by kernel_rfl
theorem ql58c59a (a59c : Y59c) (N : Nat) (lx1 : List Int) : ∀ (m : Nat) (start0_a : Int) (t11_a : Int) (o9000_af0 : List (List Int)), R58c59_0 a59c N m (Sl58c59a lx1 start0_a t11_a o9000_af0) = l58c59a a59c N lx1 m start0_a t11_a o9000_af0
        | 0, _, _, _ => rfl
        | m + 1, start0_a, t11_a, o9000_af0 => by rw [wl58c59a]; simp only [l58c59a, ql58c59a a59c N lx1 m]
def m58c59 (a59c : Y59c) (N : Nat) (start0 : Int) (lx1 : List Int) (p2 : List (List Int)) : Option (Int × List (List Int)) :=
   (l58c59a a59c N lx1 N start0 (0 : Int) p2)
theorem wm58c59 (a59c : Y59c) (N : Nat) (start0 : Int) (lx1 : List Int) (p2 : List (List Int)) : callF (E58c59 a59c) lv58c59 N en58c59 c58c59 (resOf Tryd.f58) 18 [.dv (.int .i64) start0, .dv (.sl (.int .i64)) lx1, .fn 59 0 1 fun i => ([.ptr 9000 0 [0]] : List TV).getD i .any] [(9000, .rcd [.dv (.sl (.sl (.int .i64))) p2])] dec58c59 = (R58c59_0 a59c N N (Sl58c59a lx1 start0 (0 : Int) p2)) := by kernel_rfl
theorem k58c59 (a59c : Y59c) (N : Nat) (start0 : Int) (lx1 : List Int) (p2 : List (List Int)) : callF (E58c59 a59c) lv58c59 N en58c59 c58c59 (resOf Tryd.f58) 18 [.dv (.int .i64) start0, .dv (.sl (.int .i64)) lx1, .fn 59 0 1 fun i => ([.ptr 9000 0 [0]] : List TV).getD i .any] [(9000, .rcd [.dv (.sl (.sl (.int .i64))) p2])] dec58c59 = m58c59 a59c N start0 lx1 p2 := by rw [wm58c59]; simp only [m58c59, ql58c59a]
theorem ok58c59 (a59c : Y59c) (h59c : FnOk Tryd.prog 59 (F59c a59c)) (a : Y58c59) (h : ∀ start0 lx1 p2 r, a start0 lx1 p2 = some r → (∃ N, m58c59 a59c N start0 lx1 p2 = some r)) : FnOk Tryd.prog 58 (F58c59 a) := by
 intro args Of x hx
 simp only [F58c59] at hx
 split at hx
 ·rename_i start0 lx1 f_0 p2 heqc
  have hc0 := congrArg (fun c : List (List TV) => c.getD 0 []) heqc
  obtain ⟨N, hN⟩ := h _ _ _ _ hx
  refine HSpec.etaL (args := [.dv (.int .i64) start0, .dv (.sl (.int .i64)) lx1, .fn 59 0 1 fun i => ([.ptr 9000 0 [0]] : List TV).getD i .any]) (O := [(9000, .rcd [.dv (.sl (.sl (.int .i64))) p2])]) ⟨TV.sim_refl _, TV.sim_refl _, TV.sim_fn hc0, trivial⟩ ⟨rfl, TO.sim_refl _, trivial⟩ (lifted (L := [(59, F59c a59c)]) (rc := nrc) (fz := nfz) (fn := Tryd.f58) (by kernel_rfl) (by kernel_rfl) (by kernel_rfl) (by kernel_rfl) rfl ?_ ((k58c59 a59c N _ _ _).trans hN) ?_)
  ·intro p hp; simp only [List.mem_cons, List.not_mem_nil, or_false] at hp; rcases hp with rfl; exact h59c
  ·intro l o hd
   simp only [dec58c59] at hd
   split at hd
   ·obtain rfl := Option.some.inj hd; exact ⟨rfl, rfl⟩
   ·cases hd
 ·cases hx
def E51 (a58c59 : Y58c59) : Env := mkE TI TY [(58, F58c59 a58c59)] nrc nfz
noncomputable def c51 : Code := bodyOf Tryd.f51
def lv51 : Nat → Option Norm := norms []
def en51 : End := ⟨[], ⟨[11], [], [], []⟩⟩
def dec51 (l : List TV) (o : List (Nat × TO)) : Option (Int) := match l, o with | [.dv (.int .i64) x0], [] => some (x0) | _, _ => none
def m51 (a58c59 : Y58c59) (N : Nat) (t0 : List (List Int)) (s1 : Int) (lx2 : List Int) : Option (Int) :=
   (a58c59 s1 lx2 t0).bind fun r1 =>
   some r1.1
theorem k51 (a58c59 : Y58c59) (N : Nat) (t0 : List (List Int)) (s1 : Int) (lx2 : List Int) : callF (E51 a58c59) lv51 N en51 c51 (resOf Tryd.f51) 8 [.dv (.sl (.sl (.int .i64))) t0, .dv (.int .i64) s1, .dv (.sl (.int .i64)) lx2] [] dec51 = m51 a58c59 N t0 s1 lx2 := by kernel_rfl
theorem ok51 (a58c59 : Y58c59) (h58c59 : FnOk Tryd.prog 58 (F58c59 a58c59)) (a : Y51) (h : ∀ t0 s1 lx2 r, a t0 s1 lx2 = some r → (∃ N, m51 a58c59 N t0 s1 lx2 = some r)) : FnOk Tryd.prog 51 (F51 a) := by
 intro args Of x hx
 simp only [F51] at hx
 split at hx
 ·rename_i t0 s1 lx2
  obtain ⟨N, hN⟩ := h _ _ _ _ hx
  refine lifted (L := [(58, F58c59 a58c59)]) (rc := nrc) (fz := nfz) (fn := Tryd.f51) (by kernel_rfl) (by kernel_rfl) (by kernel_rfl) (by kernel_rfl) rfl ?_ ((k51 a58c59 N _ _ _).trans hN) ?_
  ·intro p hp; simp only [List.mem_cons, List.not_mem_nil, or_false] at hp; rcases hp with rfl; exact h58c59
  ·intro l o hd
   simp only [dec51] at hd
   split at hd
   ·obtain rfl := Option.some.inj hd; exact ⟨rfl, rfl⟩
   ·cases hd
 ·cases hx
def E34 (a50 : Y50) (a51 : Y51) : Env := mkE TI TY [(50, F50 a50), (51, F51 a51)] nrc nfz
noncomputable def c34 : Code := bodyOf Tryd.f34
def lv34 : Nat → Option Norm := norms []
def en34 : End := ⟨[], ⟨[16, 17], [], [], []⟩⟩
def dec34 (l : List TV) (o : List (Nat × TO)) : Option (Int × Int) := match l, o with | [.dv (.int .i64) x0, .dv (.int .i64) x1], [] => some (x0, x1) | _, _ => none
def m34 (a50 : Y50) (a51 : Y51) (N : Nat) (table0 : List (List Int)) (lx1 : List Int) : Option (Int × Int) :=
   (a50 table0 lx1).bind fun r1 =>
   cond (r1 != (0 : Int)) (some ((0 : Int), r1))
   ((a51 table0 (0 : Int) lx1).bind fun r2 =>
   some (r2, (0 : Int)))
theorem k34 (a50 : Y50) (a51 : Y51) (N : Nat) (table0 : List (List Int)) (lx1 : List Int) : callF (E34 a50 a51) lv34 N en34 c34 (resOf Tryd.f34) 14 [.dv (.sl (.sl (.int .i64))) table0, .dv (.sl (.int .i64)) lx1] [] dec34 = m34 a50 a51 N table0 lx1 := by kernel_rfl
theorem ok34 (a50 : Y50) (a51 : Y51) (h50 : FnOk Tryd.prog 50 (F50 a50)) (h51 : FnOk Tryd.prog 51 (F51 a51)) (a : Y34) (h : ∀ table0 lx1 r, a table0 lx1 = some r → (∃ N, m34 a50 a51 N table0 lx1 = some r)) : FnOk Tryd.prog 34 (F34 a) := by
 intro args Of x hx
 simp only [F34] at hx
 split at hx
 ·rename_i table0 lx1
  obtain ⟨N, hN⟩ := h _ _ _ hx
  refine lifted (L := [(50, F50 a50), (51, F51 a51)]) (rc := nrc) (fz := nfz) (fn := Tryd.f34) (by kernel_rfl) (by kernel_rfl) (by kernel_rfl) (by kernel_rfl) rfl ?_ ((k34 a50 a51 N _ _).trans hN) ?_
  ·intro p hp; simp only [List.mem_cons, List.not_mem_nil, or_false] at hp; rcases hp with rfl | rfl
   ·exact h50
   ·exact h51
  ·intro l o hd
   simp only [dec34] at hd
   split at hd
   ·obtain rfl := Option.some.inj hd; exact ⟨rfl, rfl⟩
   ·cases hd
 ·cases hx
def E19 (a34 : Y34) (a35 : Y35) : Env := mkE TI TY [(34, F34 a34), (35, F35 a35)] nrc nfz
noncomputable def c19 : Code := bodyOf Tryd.f19
def lv19 : Nat → Option Norm := norms []
def en19 : End := ⟨[], ⟨[22, 23], [], [], []⟩⟩
def dec19 (l : List TV) (o : List (Nat × TO)) : Option (Int × Int) := match l, o with | [.dv (.int .i64) x0, .dv (.int .i64) x1], [] => some (x0, x1) | _, _ => none
def m19 (a34 : Y34) (a35 : Y35) (N : Nat) (table0 : List (List Int)) (lx1 : List Int) : Option (Int × Int) :=
   (a34 table0 lx1).bind fun r1 =>
   cond (r1.2 != (0 : Int)) (some ((0 : Int), r1.2))
   (chk (decide (0 ≤ r1.1 ∧ r1.1 < (table0.length : Int))) ((a35 (table0.getD r1.1.toNat ([] : List Int)) (0 : Int)).bind fun r2 =>
   some (r2, (0 : Int))))
theorem k19 (a34 : Y34) (a35 : Y35) (N : Nat) (table0 : List (List Int)) (lx1 : List Int) : callF (E19 a34 a35) lv19 N en19 c19 (resOf Tryd.f19) 20 [.dv (.sl (.sl (.int .i64))) table0, .dv (.sl (.int .i64)) lx1] [] dec19 = m19 a34 a35 N table0 lx1 := by kernel_rfl
theorem ok19 (a34 : Y34) (a35 : Y35) (h34 : FnOk Tryd.prog 34 (F34 a34)) (h35 : FnOk Tryd.prog 35 (F35 a35)) (a : Y19) (h : ∀ table0 lx1 r, a table0 lx1 = some r → (∃ N, m19 a34 a35 N table0 lx1 = some r)) : FnOk Tryd.prog 19 (F19 a) := by
 intro args Of x hx
 simp only [F19] at hx
 split at hx
 ·rename_i table0 lx1
  obtain ⟨N, hN⟩ := h _ _ _ hx
  refine lifted (L := [(34, F34 a34), (35, F35 a35)]) (rc := nrc) (fz := nfz) (fn := Tryd.f19) (by kernel_rfl) (by kernel_rfl) (by kernel_rfl) (by kernel_rfl) rfl ?_ ((k19 a34 a35 N _ _).trans hN) ?_
  ·intro p hp; simp only [List.mem_cons, List.not_mem_nil, or_false] at hp; rcases hp with rfl | rfl
   ·exact h34
   ·exact h35
  ·intro l o hd
   simp only [dec19] at hd
   split at hd
   ·obtain rfl := Option.some.inj hd; exact ⟨rfl, rfl⟩
   ·cases hd
 ·cases hx
def E6 (a12 : Y12) (a19 : Y19) (a5 : Y5) : Env := mkE TI TY [(12, F12 a12), (19, F19 a19), (5, F5 a5)] nrc nfz
noncomputable def c6 : Code := bodyOf Tryd.f6
def nm6_0 : Norm := ⟨[0, 2, 9, 29, 30], [27], [], []⟩
def lv6 : Nat → Option Norm := norms [(10, nm6_0)]
def en6 : End := ⟨[(62, .sl (.int .i64))], ⟨[62, 63], [], [], []⟩⟩
def dec6 (l : List TV) (o : List (Nat × TO)) : Option (List Int × Int) := match l, o with | [.dv (.sl (.int .i64)) x0, .dv (.int .i64) x1], [] => some (x0, x1) | _, _ => none
def Sl6a (table0 : List (List Int)) (size1 : Int) (number2_a : Int) (t30_a : Int) (o27_a : List Int) : TS := ⟨slots 62 [(0, .dv (.sl (.sl (.int .i64))) table0), (2, .dv (.int .i64) number2_a), (9, .row 27), (29, .dv (.int .i64) ((List.replicate ((w64 (size1 - (1 : Int))).toNat) (0 : Int)).length : Int)), (30, .dv (.int .i64) t30_a)], [(27, .row (.int .i64) o27_a)]⟩
noncomputable def K6_0 (a12 : Y12) (a19 : Y19) (a5 : Y5) (N : Nat) : Kont (List Int × Int) := kont (E6 a12 a19 a5) lv6 N c6 [1, 1, 1, 1, 0, 1, 0] (fin TI en6 (resOf Tryd.f6) dec6)
noncomputable def R6_0 (a12 : Y12) (a19 : Y19) (a5 : Y5) (N : Nat) (m : Nat) : TS → Option (List Int × Int) := loopK (den (E6 a12 a19 a5) lv6 N (sub c6 [1, 1, 1, 1, 0, 1, 0, 0])) (TS.norm nm6_0) (K6_0 a12 a19 a5 N) m
def l6a (a12 : Y12) (a19 : Y19) (a5 : Y5) (N : Nat) (table0 : List (List Int)) (size1 : Int) : Nat → Int → Int → (List Int) → Option (List Int × Int)
 | 0, _, _, _ => none
 | n + 1, number2_a, t30_a, o27_a => cond (decide (t30_a < ((List.replicate ((w64 (size1 - (1 : Int))).toNat) (0 : Int)).length : Int))) (chk (decide ((table0.length : Int) ≠ (0 : Int))) (chk (decide (0 ≤ w64 ((w64 ((o27_a.length : Int) - (1 : Int))) - t30_a) ∧ w64 ((w64 ((o27_a.length : Int) - (1 : Int))) - t30_a) < (o27_a.length : Int))) (chk (decide ((table0.length : Int) ≠ (0 : Int))) ((l6a a12 a19 a5 N table0 size1 n (w64 (Int.tdiv number2_a (table0.length : Int))) (w64 (t30_a + (1 : Int))) (o27_a.set ((w64 ((w64 ((o27_a.length : Int) - (1 : Int))) - t30_a)).toNat) (Int.tmod number2_a (table0.length : Int))))))))
   (cond (decide (number2_a > (0 : Int))) (some (([] : List Int), (4 : Int)))
   ((a19 table0 o27_a).bind fun r3 =>
   chk (small (o27_a.length + 1) 8) (some (o27_a ++ ([r3.1] : List Int), r3.2))))
theorem wl6a (a12 : Y12) (a19 : Y19) (a5 : Y5) (N : Nat) (table0 : List (List Int)) (size1 : Int) (m : Nat) (number2_a : Int) (t30_a : Int) (o27_a : List Int) : R6_0 a12 a19 a5 N (m + 1) (Sl6a table0 size1 number2_a t30_a o27_a) = cond (decide (t30_a < ((List.replicate ((w64 (size1 - (1 : Int))).toNat) (0 : Int)).length : Int))) (chk (decide ((table0.length : Int) ≠ (0 : Int))) (chk (decide (0 ≤ w64 ((w64 ((o27_a.length : Int) - (1 : Int))) - t30_a) ∧ w64 ((w64 ((o27_a.length : Int) - (1 : Int))) - t30_a) < (o27_a.length : Int))) (chk (decide ((table0.length : Int) ≠ (0 : Int))) ((R6_0 a12 a19 a5 N m (Sl6a table0 size1 (w64 (Int.tdiv number2_a (table0.length : Int))) (w64 (t30_a + (1 : Int))) (o27_a.set ((w64 ((w64 ((o27_a.length : Int) - (1 : Int))) - t30_a)).toNat) (Int.tmod number2_a (table0.length : Int)))))))))
   (cond (decide (number2_a > (0 : Int))) (some (([] : List Int), (4 : Int)))
   ((a19 table0 o27_a).bind fun r3 =>
   chk (small (o27_a.length + 1) 8) (some (o27_a ++ ([r3.1] : List Int), r3.2)))) := by kernel_rfl
theorem ql6a (a12 : Y12) (a19 : Y19) (a5 : Y5) (N : Nat) (table0 : List (List Int)) (size1 : Int) : ∀ (m : Nat) (number2_a : Int) (t30_a : Int) (o27_a : List Int), R6_0 a12 a19 a5 N m (Sl6a table0 size1 number2_a t30_a o27_a) = l6a a12 a19 a5 N table0 size1 m number2_a t30_a o27_a
        | 0, _, _, _ => rfl
        | m + 1, number2_a, t30_a, o27_a => by rw [wl6a]; simp only [l6a, ql6a a12 a19 a5 N table0 size1 m]
def m6 (a12 : Y12) (a19 : Y19) (a5 : Y5) (N : Nat) (table0 : List (List Int)) (size1 : Int) (number2 : Int) : Option (List Int × Int) :=
   (a5 table0).bind fun r1 =>
   cond (r1 != (0 : Int)) (some (([] : List Int), r1))
   ((a12 (2 : Int) size1 (12 : Int)).bind fun r2 =>
   cond (!r2) (some (([] : List Int), (3 : Int)))
   (cond (decide (number2 < (0 : Int))) (some (([] : List Int), (4 : Int)))
   (chk (mkOk (w64 (size1 - (1 : Int))) (w64 (size1 - (1 : Int))) 8) ((l6a a12 a19 a5 N table0 size1 N number2 (0 : Int) (List.replicate ((w64 (size1 - (1 : Int))).toNat) (0 : Int)))))))
theorem wm6 (a12 : Y12) (a19 : Y19) (a5 : Y5) (N : Nat) (table0 : List (List Int)) (size1 : Int) (number2 : Int) : callF (E6 a12 a19 a5) lv6 N en6 c6 (resOf Tryd.f6) 59 [.dv (.sl (.sl (.int .i64))) table0, .dv (.int .i64) size1, .dv (.int .i64) number2] [] dec6 = (a5 table0).bind fun r1 =>
   cond (r1 != (0 : Int)) (some (([] : List Int), r1))
   ((a12 (2 : Int) size1 (12 : Int)).bind fun r2 =>
   cond (!r2) (some (([] : List Int), (3 : Int)))
   (cond (decide (number2 < (0 : Int))) (some (([] : List Int), (4 : Int)))
   (chk (mkOk (w64 (size1 - (1 : Int))) (w64 (size1 - (1 : Int))) 8) ((R6_0 a12 a19 a5 N N (Sl6a table0 size1 number2 (0 : Int) (List.replicate ((w64 (size1 - (1 : Int))).toNat) (0 : Int)))))))) := by kernel_rfl
theorem k6 (a12 : Y12) (a19 : Y19) (a5 : Y5) (N : Nat) (table0 : List (List Int)) (size1 : Int) (number2 : Int) : callF (E6 a12 a19 a5) lv6 N en6 c6 (resOf Tryd.f6) 59 [.dv (.sl (.sl (.int .i64))) table0, .dv (.int .i64) size1, .dv (.int .i64) number2] [] dec6 = m6 a12 a19 a5 N table0 size1 number2 := by rw [wm6]; simp only [m6, ql6a]
theorem ok6 (a12 : Y12) (a19 : Y19) (a5 : Y5) (h12 : FnOk Tryd.prog 12 (F12 a12)) (h19 : FnOk Tryd.prog 19 (F19 a19)) (h5 : FnOk Tryd.prog 5 (F5 a5)) (a : Y6) (h : ∀ table0 size1 number2 r, a table0 size1 number2 = some r → (∃ N, m6 a12 a19 a5 N table0 size1 number2 = some r)) : FnOk Tryd.prog 6 (F6 a) := by
 intro args Of x hx
 simp only [F6] at hx
 split at hx
 ·rename_i table0 size1 number2
  obtain ⟨N, hN⟩ := h _ _ _ _ hx
  refine lifted (L := [(12, F12 a12), (19, F19 a19), (5, F5 a5)]) (rc := nrc) (fz := nfz) (fn := Tryd.f6) (by kernel_rfl) (by kernel_rfl) (by kernel_rfl) (by kernel_rfl) rfl ?_ ((k6 a12 a19 a5 N _ _ _).trans hN) ?_
  ·intro p hp; simp only [List.mem_cons, List.not_mem_nil, or_false] at hp; rcases hp with rfl | rfl | rfl
   ·exact h12
   ·exact h19
   ·exact h5
  ·intro l o hd
   simp only [dec6] at hd
   split at hd
   ·obtain rfl := Option.some.inj hd; exact ⟨rfl, rfl⟩
   ·cases hd
 ·cases hx
def E24 : Env := mkE TI TY [] nrc nfz
noncomputable def c24 : Code := bodyOf Tryd.f24
def nm24_0 : Norm := ⟨[1, 5, 8, 9, 10], [], [], []⟩
def lv24 : Nat → Option Norm := norms [(3, nm24_0)]
def en24 : End := ⟨[], ⟨[25], [], [], []⟩⟩
def dec24 (l : List TV) (o : List (Nat × TO)) : Option (Int) := match l, o with | [.dv (.int .i64) x0], [] => some (x0) | _, _ => none
def Sl24a (ax0 : List Int) (b1 : List Int) (n5_a : Int) (t10_a : Int) : TS := ⟨slots 25 [(1, .dv (.sl (.int .i64)) b1), (5, .dv (.int .i64) n5_a), (8, .dv (.sl (.int .i64)) ax0), (9, .dv (.int .i64) (ax0.length : Int)), (10, .dv (.int .i64) t10_a)], []⟩
noncomputable def K24_0 (N : Nat) : Kont (Int) := kont (E24) lv24 N c24 [1, 1, 0, 1, 0] (fin TI en24 (resOf Tryd.f24) dec24)
noncomputable def R24_0 (N : Nat) (m : Nat) : TS → Option (Int) := loopK (den (E24) lv24 N (sub c24 [1, 1, 0, 1, 0, 0])) (TS.norm nm24_0) (K24_0 N) m
def l24a (N : Nat) (ax0 : List Int) (b1 : List Int) : Nat → Int → Int → Option (Int)
 | 0, _, _ => none
 | n + 1, n5_a, t10_a => cond (decide (t10_a < (ax0.length : Int))) (chk (decide (0 ≤ t10_a ∧ t10_a < (ax0.length : Int))) (chk (decide (0 ≤ t10_a ∧ t10_a < (b1.length : Int))) (cond ((b1.getD t10_a.toNat (0 : Int)) != (ax0.getD t10_a.toNat (0 : Int))) ((l24a N ax0 b1 n (w64 (n5_a + (1 : Int))) (w64 (t10_a + (1 : Int)))))
   ((l24a N ax0 b1 n n5_a (w64 (t10_a + (1 : Int))))))))
   (some n5_a)
theorem wl24a (N : Nat) (ax0 : List Int) (b1 : List Int) (m : Nat) (n5_a : Int) (t10_a : Int) : R24_0 N (m + 1) (Sl24a ax0 b1 n5_a t10_a) = cond (decide (t10_a < (ax0.length : Int))) (chk (decide (0 ≤ t10_a ∧ t10_a < (ax0.length : Int))) (chk (decide (0 ≤ t10_a ∧ t10_a < (b1.length : Int))) (cond ((b1.getD t10_a.toNat (0 : Int)) != (ax0.getD t10_a.toNat (0 : Int))) ((R24_0 N m (Sl24a ax0 b1 (w64 (n5_a + (1 : Int))) (w64 (t10_a + (1 : Int))))))
   ((R24_0 N m (Sl24a ax0 b1 n5_a (w64 (t10_a + (1 : Int)))))))))
   (some n5_a) := by kernel_rfl
theorem ql24a (N : Nat) (ax0 : List Int) (b1 : List Int) : ∀ (m : Nat) (n5_a : Int) (t10_a : Int), R24_0 N m (Sl24a ax0 b1 n5_a t10_a) = l24a N ax0 b1 m n5_a t10_a
        | 0, _, _ => rfl
        | m + 1, n5_a, t10_a => by rw [wl24a]; simp only [l24a, ql24a N ax0 b1 m]
def m24 (N : Nat) (ax0 : List Int) (b1 : List Int) : Option (Int) :=
   (l24a N ax0 b1 N (0 : Int) (0 : Int))
theorem wm24 (N : Nat) (ax0 : List Int) (b1 : List Int) : callF (E24) lv24 N en24 c24 (resOf Tryd.f24) 23 [.dv (.sl (.int .i64)) ax0, .dv (.sl (.int .i64)) b1] [] dec24 = (R24_0 N N (Sl24a ax0 b1 (0 : Int) (0 : Int))) := by kernel_rfl
theorem k24 (N : Nat) (ax0 : List Int) (b1 : List Int) : callF (E24) lv24 N en24 c24 (resOf Tryd.f24) 23 [.dv (.sl (.int .i64)) ax0, .dv (.sl (.int .i64)) b1] [] dec24 = m24 N ax0 b1 := by rw [wm24]; simp only [m24, ql24a]
theorem ok24 (a : Y24) (h : ∀ ax0 b1 r, a ax0 b1 = some r → (∃ N, m24 N ax0 b1 = some r)) : FnOk Tryd.prog 24 (F24 a) := by
 intro args Of x hx
 simp only [F24] at hx
 split at hx
 ·rename_i ax0 b1
  obtain ⟨N, hN⟩ := h _ _ _ hx
  refine lifted (L := []) (rc := nrc) (fz := nfz) (fn := Tryd.f24) (by kernel_rfl) (by kernel_rfl) (by kernel_rfl) (by kernel_rfl) rfl ?_ ((k24 N _ _).trans hN) ?_
  ·intro p hp; cases hp
  ·intro l o hd
   simp only [dec24] at hd
   split at hd
   ·obtain rfl := Option.some.inj hd; exact ⟨rfl, rfl⟩
   ·cases hd
 ·cases hx
def E8 (a22 : Y22) (a23 : Y23) (a24 : Y24) : Env := mkE TI TY [(22, F22 a22), (23, F23 a23), (24, F24 a24)] nrc nfz
noncomputable def c8 : Code := bodyOf Tryd.f8
def nm8_0 : Norm := ⟨[1, 5, 24, 25, 26], [1], [], []⟩
def nm8_1 : Norm := ⟨[1, 5, 7, 24, 25, 26, 34, 35, 36], [1], [], []⟩
def lv8 : Nat → Option Norm := norms [(8, nm8_0), (11, nm8_1)]
def en8 : End := ⟨[], ⟨[48, 49], [], [], []⟩⟩
def dec8 (l : List TV) (o : List (Nat × TO)) : Option (Int × Int) := match l, o with | [.dv (.int .i64) x0, .dv (.int .i64) x1], [] => some (x0, x1) | _, _ => none
def Sl8b (cx0 : Int × List (List Int) × Unit) (t26_a : Int) (n5_b : Int) (t36_b : Int) : TS := ⟨slots 48 [(1, .ptr 1 0 []), (5, .dv (.int .i64) n5_b), (7, .dv (.sl (.int .i64)) (cx0.2.1.getD t26_a.toNat ([] : List Int))), (24, .dv (.sl (.sl (.int .i64))) cx0.2.1), (25, .dv (.int .i64) (cx0.2.1.length : Int)), (26, .dv (.int .i64) t26_a), (34, .dv (.sl (.sl (.int .i64))) (cx0.2.1.take t26_a.toNat)), (35, .dv (.int .i64) ((cx0.2.1.take t26_a.toNat).length : Int)), (36, .dv (.int .i64) t36_b)], [(1, .row (.pair (.int .i64) (.pair (.sl (.sl (.int .i64))) (.unit))) ([cx0] : List Cd))]⟩
def Sl8a (cx0 : Int × List (List Int) × Unit) (n5_a : Int) (t26_a : Int) : TS := ⟨slots 48 [(1, .ptr 1 0 []), (5, .dv (.int .i64) n5_a), (24, .dv (.sl (.sl (.int .i64))) cx0.2.1), (25, .dv (.int .i64) (cx0.2.1.length : Int)), (26, .dv (.int .i64) t26_a)], [(1, .row (.pair (.int .i64) (.pair (.sl (.sl (.int .i64))) (.unit))) ([cx0] : List Cd))]⟩
noncomputable def K8_0 (a22 : Y22) (a23 : Y23) (a24 : Y24) (N : Nat) : Kont (Int × Int) := kont (E8 a22 a23 a24) lv8 N c8 [1, 1, 1, 1, 0, 1, 0] (fin TI en8 (resOf Tryd.f8) dec8)
noncomputable def R8_0 (a22 : Y22) (a23 : Y23) (a24 : Y24) (N : Nat) (m : Nat) : TS → Option (Int × Int) := loopK (den (E8 a22 a23 a24) lv8 N (sub c8 [1, 1, 1, 1, 0, 1, 0, 0])) (TS.norm nm8_0) (K8_0 a22 a23 a24 N) m
noncomputable def K8_1 (a22 : Y22) (a23 : Y23) (a24 : Y24) (N : Nat) (T8_0 : TS → Option (Int × Int)) : Kont (Int × Int) := kont (E8 a22 a23 a24) lv8 N (sub c8 [1, 1, 1, 1, 0, 1, 0, 0]) [1, 1, 0, 0, 1, 1, 0] (kloop (TS.norm nm8_0) (K8_0 a22 a23 a24 N) T8_0)
noncomputable def R8_1 (a22 : Y22) (a23 : Y23) (a24 : Y24) (N : Nat) (T8_0 : TS → Option (Int × Int)) (m : Nat) : TS → Option (Int × Int) := loopK (den (E8 a22 a23 a24) lv8 N (sub c8 [1, 1, 1, 1, 0, 1, 0, 0, 1, 1, 0, 0, 1, 1, 0, 0])) (TS.norm nm8_1) (K8_1 a22 a23 a24 N T8_0) m
def l8b (a22 : Y22) (a23 : Y23) (a24 : Y24) (N : Nat) (cx0 : Int × List (List Int) × Unit) (t26_a : Int) (rec_l8a : Int → Int → Option (Int × Int)) : Nat → Int → Int → Option (Int × Int)
 | 0, _, _ => none
 | n + 1, n5_b, t36_b => cond (decide (t36_b < ((cx0.2.1.take t26_a.toNat).length : Int))) (chk (decide (0 ≤ t36_b ∧ t36_b < ((cx0.2.1.take t26_a.toNat).length : Int))) ((a24 (cx0.2.1.getD t26_a.toNat ([] : List Int)) ((cx0.2.1.take t26_a.toNat).getD t36_b.toNat ([] : List Int))).bind fun r3 =>
   (l8b a22 a23 a24 N cx0 t26_a rec_l8a n (imin n5_b r3) (w64 (t36_b + (1 : Int))))))
   ((rec_l8a n5_b (w64 (t26_a + (1 : Int)))))
theorem wl8b (a22 : Y22) (a23 : Y23) (a24 : Y24) (N : Nat) (cx0 : Int × List (List Int) × Unit) (t26_a : Int) (T8_0 : TS → Option (Int × Int)) (m : Nat) (n5_b : Int) (t36_b : Int) : R8_1 a22 a23 a24 N T8_0 (m + 1) (Sl8b cx0 t26_a n5_b t36_b) = cond (decide (t36_b < ((cx0.2.1.take t26_a.toNat).length : Int))) (chk (decide (0 ≤ t36_b ∧ t36_b < ((cx0.2.1.take t26_a.toNat).length : Int))) ((a24 (cx0.2.1.getD t26_a.toNat ([] : List Int)) ((cx0.2.1.take t26_a.toNat).getD t36_b.toNat ([] : List Int))).bind fun r3 =>
   (R8_1 a22 a23 a24 N T8_0 m (Sl8b cx0 t26_a (imin n5_b r3) (w64 (t36_b + (1 : Int)))))))
   ((T8_0 (Sl8a cx0 n5_b (w64 (t26_a + (1 : Int)))))) := by kernel_rfl
theorem ql8b (a22 : Y22) (a23 : Y23) (a24 : Y24) (N : Nat) (cx0 : Int × List (List Int) × Unit) (t26_a : Int) (T8_0 : TS → Option (Int × Int)) : ∀ (m : Nat) (n5_b : Int) (t36_b : Int), R8_1 a22 a23 a24 N T8_0 m (Sl8b cx0 t26_a n5_b t36_b) = l8b a22 a23 a24 N cx0 t26_a (fun y0 y1 => T8_0 (Sl8a cx0 y0 y1)) m n5_b t36_b
        | 0, _, _ => rfl
        | m + 1, n5_b, t36_b => by rw [wl8b]; simp only [l8b, ql8b a22 a23 a24 N cx0 t26_a T8_0 m]
def l8a (a22 : Y22) (a23 : Y23) (a24 : Y24) (N : Nat) (cx0 : Int × List (List Int) × Unit) : Nat → Int → Int → Option (Int × Int)
 | 0, _, _ => none
 | n + 1, n5_a, t26_a => cond (decide (t26_a < (cx0.2.1.length : Int))) (chk (decide (0 ≤ t26_a ∧ t26_a < (cx0.2.1.length : Int))) (chk (decide (0 ≤ t26_a ∧ t26_a ≤ (cx0.2.1.length : Int))) ((l8b a22 a23 a24 N cx0 t26_a (fun y0 y1 => (l8a a22 a23 a24 N cx0 n y0 y1)) N n5_a (0 : Int)))))
   (some (n5_a, (0 : Int)))
theorem wl8a (a22 : Y22) (a23 : Y23) (a24 : Y24) (N : Nat) (cx0 : Int × List (List Int) × Unit) (m : Nat) (n5_a : Int) (t26_a : Int) : R8_0 a22 a23 a24 N (m + 1) (Sl8a cx0 n5_a t26_a) = cond (decide (t26_a < (cx0.2.1.length : Int))) (chk (decide (0 ≤ t26_a ∧ t26_a < (cx0.2.1.length : Int))) (chk (decide (0 ≤ t26_a ∧ t26_a ≤ (cx0.2.1.length : Int))) ((R8_1 a22 a23 a24 N (R8_0 a22 a23 a24 N m) N (Sl8b cx0 t26_a n5_a (0 : Int))))))
   (some (n5_a, (0 : Int))) := by kernel_rfl
theorem ql8a (a22 : Y22) (a23 : Y23) (a24 : Y24) (N : Nat) (cx0 : Int × List (List Int) × Unit) : ∀ (m : Nat) (n5_a : Int) (t26_a : Int), R8_0 a22 a23 a24 N m (Sl8a cx0 n5_a t26_a) = l8a a22 a23 a24 N cx0 m n5_a t26_a
        | 0, _, _ => rfl
        | m + 1, n5_a, t26_a => by rw [wl8a]; simp only [l8a, ql8b, ql8a a22 a23 a24 N cx0 m]
def m8 (a22 : Y22) (a23 : Y23) (a24 : Y24) (N : Nat) (cx0 : Int × List (List Int) × Unit) : Option (Int × Int) :=
   (a22 cx0).bind fun r1 =>
   cond (r1 != (0 : Int)) (some ((0 : Int), r1))
   (cond ((cx0.2.1.length : Int) == (1 : Int)) (some ((0 : Int), (14 : Int)))
   ((a23 cx0).bind fun r2 =>
   (l8a a22 a23 a24 N cx0 N r2 (0 : Int))))
theorem wm8 (a22 : Y22) (a23 : Y23) (a24 : Y24) (N : Nat) (cx0 : Int × List (List Int) × Unit) : callF (E8 a22 a23 a24) lv8 N en8 c8 (resOf Tryd.f8) 47 [.dv (.pair (.int .i64) (.pair (.sl (.sl (.int .i64))) (.unit))) cx0] [] dec8 = (a22 cx0).bind fun r1 =>
   cond (r1 != (0 : Int)) (some ((0 : Int), r1))
   (cond ((cx0.2.1.length : Int) == (1 : Int)) (some ((0 : Int), (14 : Int)))
   ((a23 cx0).bind fun r2 =>
   (R8_0 a22 a23 a24 N N (Sl8a cx0 r2 (0 : Int))))) := by kernel_rfl
theorem k8 (a22 : Y22) (a23 : Y23) (a24 : Y24) (N : Nat) (cx0 : Int × List (List Int) × Unit) : callF (E8 a22 a23 a24) lv8 N en8 c8 (resOf Tryd.f8) 47 [.dv (.pair (.int .i64) (.pair (.sl (.sl (.int .i64))) (.unit))) cx0] [] dec8 = m8 a22 a23 a24 N cx0 := by rw [wm8]; simp only [m8, ql8a]
theorem ok8 (a22 : Y22) (a23 : Y23) (a24 : Y24) (h22 : FnOk Tryd.prog 22 (F22 a22)) (h23 : FnOk Tryd.prog 23 (F23 a23)) (h24 : FnOk Tryd.prog 24 (F24 a24)) (a : Y8) (h : ∀ cx0 r, a cx0 = some r → (∃ N, m8 a22 a23 a24 N cx0 = some r)) : FnOk Tryd.prog 8 (F8 a) := by
 intro args Of x hx
 simp only [F8] at hx
 split at hx
 ·rename_i cx0
  obtain ⟨N, hN⟩ := h _ _ hx
  refine lifted (L := [(22, F22 a22), (23, F23 a23), (24, F24 a24)]) (rc := nrc) (fz := nfz) (fn := Tryd.f8) (by kernel_rfl) (by kernel_rfl) (by kernel_rfl) (by kernel_rfl) rfl ?_ ((k8 a22 a23 a24 N _).trans hN) ?_
  ·intro p hp; simp only [List.mem_cons, List.not_mem_nil, or_false] at hp; rcases hp with rfl | rfl | rfl
   ·exact h22
   ·exact h23
   ·exact h24
  ·intro l o hd
   simp only [dec8] at hd
   split at hd
   ·obtain rfl := Option.some.inj hd; exact ⟨rfl, rfl⟩
   ·cases hd
 ·cases hx
def E48c : Env := mkE TI TY [] nrc nfz
noncomputable def c48c : Code := bodyOf Tryd.f48
def lv48c : Nat → Option Norm := norms []
def en48c : End := ⟨[], ⟨[9], [9000], [], []⟩⟩
def dec48c (l : List TV) (o : List (Nat × TO)) : Option (Bool × Int) := match l, o with | [.dv (.bool) x0], [(9000, .rcd [.dv (.int .u8) x1])] => some (x0, x1) | _, _ => none
def m48c (N : Nat) (mx0 : Int) (p1 : Int) : Option (Bool × Int) :=
   chk (decide (0 ≤ mx0)) (some ((bAnd .u8 (Int.fdiv p1 (2 ^ min (Int.toNat mx0) 8)) (1 : Int)) == (1 : Int), p1))
theorem k48c (N : Nat) (mx0 : Int) (p1 : Int) : callF (E48c) lv48c N en48c c48c (resOf Tryd.f48) 7 [.dv (.int .i64) mx0, .ptr 9000 0 [0]] [(9000, .rcd [.dv (.int .u8) p1])] dec48c = m48c N mx0 p1 := by kernel_rfl
theorem ok48c (a : Y48c) (h : ∀ mx0 p1 r, a mx0 p1 = some r → (∃ N, m48c N mx0 p1 = some r)) : FnOk Tryd.prog 48 (F48c a) := by
 intro args Of x hx
 simp only [F48c] at hx
 split at hx
 ·rename_i mx0 p1
  obtain ⟨N, hN⟩ := h _ _ _ hx
  refine lifted (L := []) (rc := nrc) (fz := nfz) (fn := Tryd.f48) (by kernel_rfl) (by kernel_rfl) (by kernel_rfl) (by kernel_rfl) rfl ?_ ((k48c N _ _).trans hN) ?_
  ·intro p hp; cases hp
  ·intro l o hd
   simp only [dec48c] at hd
   split at hd
   ·obtain rfl := Option.some.inj hd; exact ⟨rfl, rfl⟩
   ·cases hd
 ·cases hx
def E32c48 (a48c : Y48c) : Env := mkE TI TY [(48, F48c a48c)] nrc nfz
noncomputable def c32c48 : Code := bodyOf Tryd.f32
def nm32c48_0 : Norm := ⟨[0, 1, 7, 8], [9000], [], []⟩
def lv32c48 : Nat → Option Norm := norms [(2, nm32c48_0)]
def en32c48 : End := ⟨[], ⟨[19], [9000], [], []⟩⟩
def dec32c48 (l : List TV) (o : List (Nat × TO)) : Option (Int × Int) := match l, o with | [.dv (.int .i64) x0], [(9000, .rcd [.dv (.int .u8) x1])] => some (x0, x1) | _, _ => none
def Sl32c48a (s0 : List Int) (t8_a : Int) (o9000_af0 : Int) : TS := ⟨slots 19 [(0, .dv (.sl (.int .i64)) s0), (1, .fn 48 0 1 fun i => ([.ptr 9000 0 [0]] : List TV).getD i .any), (7, .dv (.int .i64) (s0.length : Int)), (8, .dv (.int .i64) t8_a)], [(9000, .rcd [.dv (.int .u8) o9000_af0])]⟩
noncomputable def K32c48_0 (a48c : Y48c) (N : Nat) : Kont (Int × Int) := kont (E32c48 a48c) lv32c48 N c32c48 [1, 0, 1, 0] (fin TI en32c48 (resOf Tryd.f32) dec32c48)
noncomputable def R32c48_0 (a48c : Y48c) (N : Nat) (m : Nat) : TS → Option (Int × Int) := loopK (den (E32c48 a48c) lv32c48 N (sub c32c48 [1, 0, 1, 0, 0])) (TS.norm nm32c48_0) (K32c48_0 a48c N) m
def l32c48a (a48c : Y48c) (N : Nat) (s0 : List Int) : Nat → Int → Int → Option (Int × Int)
 | 0, _, _ => none
 | n + 1, t8_a, o9000_af0 => cond (decide (t8_a < (s0.length : Int))) (chk (decide (0 ≤ t8_a ∧ t8_a < (s0.length : Int))) ((a48c (s0.getD t8_a.toNat (0 : Int)) o9000_af0).bind fun r1 =>
   cond (r1.1) (some (t8_a, r1.2))
   ((l32c48a a48c N s0 n (w64 (t8_a + (1 : Int))) r1.2))))
   (some ((-1 : Int), o9000_af0))
theorem wl32c48a (a48c : Y48c) (N : Nat) (s0 : List Int) (m : Nat) (t8_a : Int) (o9000_af0 : Int) : R32c48_0 a48c N (m + 1) (Sl32c48a s0 t8_a o9000_af0) = cond (decide (t8_a < (s0.length : Int))) (chk (decide (0 ≤ t8_a ∧ t8_a < (s0.length : Int))) ((a48c (s0.getD t8_a.toNat (0 : Int)) o9000_af0).bind fun r1 =>
   cond (r1.1) (some (t8_a, r1.2))
   ((R32c48_0 a48c N m (Sl32c48a s0 (w64 (t8_a + (1 : Int))) r1.2)))))
   (some ((-1 : Int), o9000_af0)) := by kernel_rfl
theorem ql32c48a (a48c : Y48c) (N : Nat) (s0 : List Int) : ∀ (m : Nat) (t8_a : Int) (o9000_af0 : Int), R32c48_0 a48c N m (Sl32c48a s0 t8_a o9000_af0) = l32c48a a48c N s0 m t8_a o9000_af0
        | 0, _, _ => rfl
        | m + 1, t8_a, o9000_af0 => by rw [wl32c48a]; simp only [l32c48a, ql32c48a a48c N s0 m]
def m32c48 (a48c : Y48c) (N : Nat) (s0 : List Int) (p1 : Int) : Option (Int × Int) :=
   (l32c48a a48c N s0 N (0 : Int) p1)
theorem wm32c48 (a48c : Y48c) (N : Nat) (s0 : List Int) (p1 : Int) : callF (E32c48 a48c) lv32c48 N en32c48 c32c48 (resOf Tryd.f32) 17 [.dv (.sl (.int .i64)) s0, .fn 48 0 1 fun i => ([.ptr 9000 0 [0]] : List TV).getD i .any] [(9000, .rcd [.dv (.int .u8) p1])] dec32c48 = (R32c48_0 a48c N N (Sl32c48a s0 (0 : Int) p1)) := by kernel_rfl
theorem k32c48 (a48c : Y48c) (N : Nat) (s0 : List Int) (p1 : Int) : callF (E32c48 a48c) lv32c48 N en32c48 c32c48 (resOf Tryd.f32) 17 [.dv (.sl (.int .i64)) s0, .fn 48 0 1 fun i => ([.ptr 9000 0 [0]] : List TV).getD i .any] [(9000, .rcd [.dv (.int .u8) p1])] dec32c48 = m32c48 a48c N s0 p1 := by rw [wm32c48]; simp only [m32c48, ql32c48a]
theorem ok32c48 (a48c : Y48c) (h48c : FnOk Tryd.prog 48 (F48c a48c)) (a : Y32c48) (h : ∀ s0 p1 r, a s0 p1 = some r → (∃ N, m32c48 a48c N s0 p1 = some r)) : FnOk Tryd.prog 32 (F32c48 a) := by
 intro args Of x hx
 simp only [F32c48] at hx
 split at hx
 ·rename_i s0 f_0 p1 heqc
  have hc0 := congrArg (fun c : List (List TV) => c.getD 0 []) heqc
  obtain ⟨N, hN⟩ := h _ _ _ hx
  refine HSpec.etaL (args := [.dv (.sl (.int .i64)) s0, .fn 48 0 1 fun i => ([.ptr 9000 0 [0]] : List TV).getD i .any]) (O := [(9000, .rcd [.dv (.int .u8) p1])]) ⟨TV.sim_refl _, TV.sim_fn hc0, trivial⟩ ⟨rfl, TO.sim_refl _, trivial⟩ (lifted (L := [(48, F48c a48c)]) (rc := nrc) (fz := nfz) (fn := Tryd.f32) (by kernel_rfl) (by kernel_rfl) (by kernel_rfl) (by kernel_rfl) rfl ?_ ((k32c48 a48c N _ _).trans hN) ?_)
  ·intro p hp; simp only [List.mem_cons, List.not_mem_nil, or_false] at hp; rcases hp with rfl; exact h48c
  ·intro l o hd
   simp only [dec32c48] at hd
   split at hd
   ·obtain rfl := Option.some.inj hd; exact ⟨rfl, rfl⟩
   ·cases hd
 ·cases hx
def E47c (a29 : Y29) : Env := mkE TI TY [(29, F29 a29)] nrc nfz
noncomputable def c47c : Code := bodyOf Tryd.f47
def lv47c : Nat → Option Norm := norms []
def en47c : End := ⟨[], ⟨[8], [9000], [], []⟩⟩
def dec47c (l : List TV) (o : List (Nat × TO)) : Option (Bool × List Int) := match l, o with | [.dv (.bool) x0], [(9000, .rcd [.dv (.sl (.int .i64)) x1])] => some (x0, x1) | _, _ => none
def m47c (a29 : Y29) (N : Nat) (i0 : Int) (p1 : List Int) : Option (Bool × List Int) :=
   (a29 p1 i0).bind fun r1 =>
   some (!r1, p1)
theorem k47c (a29 : Y29) (N : Nat) (i0 : Int) (p1 : List Int) : callF (E47c a29) lv47c N en47c c47c (resOf Tryd.f47) 6 [.dv (.int .i64) i0, .ptr 9000 0 [0]] [(9000, .rcd [.dv (.sl (.int .i64)) p1])] dec47c = m47c a29 N i0 p1 := by kernel_rfl
theorem ok47c (a29 : Y29) (h29 : FnOk Tryd.prog 29 (F29 a29)) (a : Y47c) (h : ∀ i0 p1 r, a i0 p1 = some r → (∃ N, m47c a29 N i0 p1 = some r)) : FnOk Tryd.prog 47 (F47c a) := by
 intro args Of x hx
 simp only [F47c] at hx
 split at hx
 ·rename_i i0 p1
  obtain ⟨N, hN⟩ := h _ _ _ hx
  refine lifted (L := [(29, F29 a29)]) (rc := nrc) (fz := nfz) (fn := Tryd.f47) (by kernel_rfl) (by kernel_rfl) (by kernel_rfl) (by kernel_rfl) rfl ?_ ((k47c a29 N _ _).trans hN) ?_
  ·intro p hp; simp only [List.mem_cons, List.not_mem_nil, or_false] at hp; rcases hp with rfl; exact h29
  ·intro l o hd
   simp only [dec47c] at hd
   split at hd
   ·obtain rfl := Option.some.inj hd; exact ⟨rfl, rfl⟩
   ·cases hd
 ·cases hx
def E32c47 (a47c : Y47c) : Env := mkE TI TY [(47, F47c a47c)] nrc nfz
noncomputable def c32c47 : Code := bodyOf Tryd.f32
def nm32c47_0 : Norm := ⟨[0, 1, 7, 8], [9000, 9001], [], []⟩
def lv32c47 : Nat → Option Norm := norms [(2, nm32c47_0)]
def en32c47 : End := ⟨[], ⟨[19], [9000, 9001], [], []⟩⟩
def dec32c47 (l : List TV) (o : List (Nat × TO)) : Option (Int × List Int × List Int) := match l, o with | [.dv (.int .i64) x0], [(9000, .row (.int .i64) x1), (9001, .rcd [.dv (.sl (.int .i64)) x2])] => some (x0, x1, x2) | _, _ => none
def Sl32c47a (p0 : List Int) (t8_a : Int) (o9001_af0 : List Int) : TS := ⟨slots 19 [(0, .row 9000), (1, .fn 47 0 1 fun i => ([.ptr 9001 0 [0]] : List TV).getD i .any), (7, .dv (.int .i64) (p0.length : Int)), (8, .dv (.int .i64) t8_a)], [(9000, .row (.int .i64) p0), (9001, .rcd [.dv (.sl (.int .i64)) o9001_af0])]⟩
noncomputable def K32c47_0 (a47c : Y47c) (N : Nat) : Kont (Int × List Int × List Int) := kont (E32c47 a47c) lv32c47 N c32c47 [1, 0, 1, 0] (fin TI en32c47 (resOf Tryd.f32) dec32c47)
noncomputable def R32c47_0 (a47c : Y47c) (N : Nat) (m : Nat) : TS → Option (Int × List Int × List Int) := loopK (den (E32c47 a47c) lv32c47 N (sub c32c47 [1, 0, 1, 0, 0])) (TS.norm nm32c47_0) (K32c47_0 a47c N) m
def l32c47a (a47c : Y47c) (N : Nat) (p0 : List Int) : Nat → Int → (List Int) → Option (Int × List Int × List Int)
 | 0, _, _ => none
 | n + 1, t8_a, o9001_af0 => cond (decide (t8_a < (p0.length : Int))) (chk (decide (0 ≤ t8_a ∧ t8_a < (p0.length : Int))) ((a47c (p0.getD t8_a.toNat (0 : Int)) o9001_af0).bind fun r1 =>
   cond (r1.1) (some (t8_a, p0, r1.2))
   ((l32c47a a47c N p0 n (w64 (t8_a + (1 : Int))) r1.2))))
   (some ((-1 : Int), p0, o9001_af0))
theorem wl32c47a (a47c : Y47c) (N : Nat) (p0 : List Int) (m : Nat) (t8_a : Int) (o9001_af0 : List Int) : R32c47_0 a47c N (m + 1) (Sl32c47a p0 t8_a o9001_af0) = cond (decide (t8_a < (p0.length : Int))) (chk (decide (0 ≤ t8_a ∧ t8_a < (p0.length : Int))) ((a47c (p0.getD t8_a.toNat (0 : Int)) o9001_af0).bind fun r1 =>
   cond (r1.1) (some (t8_a, p0, r1.2))
   ((R32c47_0 a47c N m (Sl32c47a p0 (w64 (t8_a + (1 : Int))) r1.2)))))
   (some ((-1 : Int), p0, o9001_af0)) := by kernel_rfl
theorem ql32c47a (a47c : Y47c) (N : Nat) (p0 : List Int) : ∀ (m : Nat) (t8_a : Int) (o9001_af0 : List Int), R32c47_0 a47c N m (Sl32c47a p0 t8_a o9001_af0) = l32c47a a47c N p0 m t8_a o9001_af0
        | 0, _, _ => rfl
        | m + 1, t8_a, o9001_af0 => by rw [wl32c47a]; simp only [l32c47a, ql32c47a a47c N p0 m]
def m32c47 (a47c : Y47c) (N : Nat) (p0 : List Int) (p1 : List Int) : Option (Int × List Int × List Int) :=
   (l32c47a a47c N p0 N (0 : Int) p1)
theorem wm32c47 (a47c : Y47c) (N : Nat) (p0 : List Int) (p1 : List Int) : callF (E32c47 a47c) lv32c47 N en32c47 c32c47 (resOf Tryd.f32) 17 [.row 9000, .fn 47 0 1 fun i => ([.ptr 9001 0 [0]] : List TV).getD i .any] [(9000, .row (.int .i64) p0), (9001, .rcd [.dv (.sl (.int .i64)) p1])] dec32c47 = (R32c47_0 a47c N N (Sl32c47a p0 (0 : Int) p1)) := by kernel_rfl
theorem k32c47 (a47c : Y47c) (N : Nat) (p0 : List Int) (p1 : List Int) : callF (E32c47 a47c) lv32c47 N en32c47 c32c47 (resOf Tryd.f32) 17 [.row 9000, .fn 47 0 1 fun i => ([.ptr 9001 0 [0]] : List TV).getD i .any] [(9000, .row (.int .i64) p0), (9001, .rcd [.dv (.sl (.int .i64)) p1])] dec32c47 = m32c47 a47c N p0 p1 := by rw [wm32c47]; simp only [m32c47, ql32c47a]
theorem ok32c47 (a47c : Y47c) (h47c : FnOk Tryd.prog 47 (F47c a47c)) (a : Y32c47) (h : ∀ p0 p1 r, a p0 p1 = some r → (∃ N, m32c47 a47c N p0 p1 = some r)) : FnOk Tryd.prog 32 (F32c47 a) := by
 intro args Of x hx
 simp only [F32c47] at hx
 split at hx
 ·rename_i f_0 p0 p1 heqc
  have hc0 := congrArg (fun c : List (List TV) => c.getD 0 []) heqc
  obtain ⟨N, hN⟩ := h _ _ _ hx
  refine HSpec.etaL (args := [.row 9000, .fn 47 0 1 fun i => ([.ptr 9001 0 [0]] : List TV).getD i .any]) (O := [(9000, .row (.int .i64) p0), (9001, .rcd [.dv (.sl (.int .i64)) p1])]) ⟨TV.sim_refl _, TV.sim_fn hc0, trivial⟩ ⟨rfl, TO.sim_refl _, rfl, TO.sim_refl _, trivial⟩ (lifted (L := [(47, F47c a47c)]) (rc := nrc) (fz := nfz) (fn := Tryd.f32) (by kernel_rfl) (by kernel_rfl) (by kernel_rfl) (by kernel_rfl) rfl ?_ ((k32c47 a47c N _ _).trans hN) ?_)
  ·intro p hp; simp only [List.mem_cons, List.not_mem_nil, or_false] at hp; rcases hp with rfl; exact h47c
  ·intro l o hd
   simp only [dec32c47] at hd
   split at hd
   ·obtain rfl := Option.some.inj hd; exact ⟨rfl, rfl⟩
   ·cases hd
 ·cases hx
def E46c47 (a32c47 : Y32c47) (a47c : Y47c) : Env := mkE TI TY [(32, F32c47 a32c47), (47, F47c a47c)] nrc (fun i => ([41] : List Nat).contains i)
noncomputable def c46c47 : Code := bodyOf Tryd.f46
def nm46c47_0 : Norm := ⟨[0, 1, 5, 6], [9000, 9001], [], []⟩
def lv46c47 : Nat → Option Norm := norms [(5, nm46c47_0)]
def en46c47 : End := ⟨[], ⟨[], [9000, 9001], [(.slot 42, 1500, .int .i64)], []⟩⟩
def dec46c47 (l : List TV) (o : List (Nat × TO)) : Option (List Int × List Int) := match l, o with | [.row 1500], [(1500, .row (.int .i64) x0), (9000, .dead), (9001, .rcd [.dv (.sl (.int .i64)) x1])] => some (x0, x1) | _, _ => none
def Sl46c47a (i5_a : Int) (j6_a : Int) (o9000_a : List Int) (o9001_af0 : List Int) : TS := ⟨slots 42 [(0, .row 9000), (1, .fn 47 0 1 fun i => ([.ptr 9001 0 [0]] : List TV).getD i .any), (5, .dv (.int .i64) i5_a), (6, .dv (.int .i64) j6_a)], [(9000, .row (.int .i64) o9000_a), (9001, .rcd [.dv (.sl (.int .i64)) o9001_af0])]⟩
noncomputable def K46c47_0 (a32c47 : Y32c47) (a47c : Y47c) (N : Nat) : Kont (List Int × List Int) := kont (E46c47 a32c47 a47c) lv46c47 N c46c47 [1, 1, 1, 0, 1, 0] (fin TI en46c47 (resOf Tryd.f46) dec46c47)
noncomputable def R46c47_0 (a32c47 : Y32c47) (a47c : Y47c) (N : Nat) (m : Nat) : TS → Option (List Int × List Int) := loopK (den (E46c47 a32c47 a47c) lv46c47 N (sub c46c47 [1, 1, 1, 0, 1, 0, 0])) (TS.norm nm46c47_0) (K46c47_0 a32c47 a47c N) m
def l46c47a (a32c47 : Y32c47) (a47c : Y47c) (N : Nat) : Nat → Int → Int → (List Int) → (List Int) → Option (List Int × List Int)
 | 0, _, _, _, _ => none
 | n + 1, i5_a, j6_a, o9000_a, o9001_af0 => cond (decide (j6_a < (o9000_a.length : Int))) (chk (decide (0 ≤ j6_a ∧ j6_a < (o9000_a.length : Int))) ((a47c (o9000_a.getD j6_a.toNat (0 : Int)) o9001_af0).bind fun r2 =>
   cond (!r2.1) (chk (decide (0 ≤ i5_a ∧ i5_a < (o9000_a.length : Int))) ((l46c47a a32c47 a47c N n (w64 (i5_a + (1 : Int))) (w64 (j6_a + (1 : Int))) (o9000_a.set i5_a.toNat (o9000_a.getD j6_a.toNat (0 : Int))) r2.2)))
   ((l46c47a a32c47 a47c N n i5_a (w64 (j6_a + (1 : Int))) o9000_a r2.2))))
   (chk (decide (0 ≤ i5_a ∧ i5_a ≤ (o9000_a.length : Int))) (chk (decide (i5_a.toNat < o9000_a.length)) (chk (decide (0 ≤ i5_a ∧ i5_a ≤ ((clr o9000_a i5_a.toNat o9000_a.length (0 : Int)).length : Int))) (some ((clr o9000_a i5_a.toNat o9000_a.length (0 : Int)).take i5_a.toNat, o9001_af0)))))
theorem wl46c47a (a32c47 : Y32c47) (a47c : Y47c) (N : Nat) (m : Nat) (i5_a : Int) (j6_a : Int) (o9000_a : List Int) (o9001_af0 : List Int) : R46c47_0 a32c47 a47c N (m + 1) (Sl46c47a i5_a j6_a o9000_a o9001_af0) = cond (decide (j6_a < (o9000_a.length : Int))) (chk (decide (0 ≤ j6_a ∧ j6_a < (o9000_a.length : Int))) ((a47c (o9000_a.getD j6_a.toNat (0 : Int)) o9001_af0).bind fun r2 =>
   cond (!r2.1) (chk (decide (0 ≤ i5_a ∧ i5_a < (o9000_a.length : Int))) ((R46c47_0 a32c47 a47c N m (Sl46c47a (w64 (i5_a + (1 : Int))) (w64 (j6_a + (1 : Int))) (o9000_a.set i5_a.toNat (o9000_a.getD j6_a.toNat (0 : Int))) r2.2))))
   ((R46c47_0 a32c47 a47c N m (Sl46c47a i5_a (w64 (j6_a + (1 : Int))) o9000_a r2.2)))))
   (chk (decide (0 ≤ i5_a ∧ i5_a ≤ (o9000_a.length : Int))) (chk (decide (i5_a.toNat < o9000_a.length)) (chk (decide (0 ≤ i5_a ∧ i5_a ≤ ((clr o9000_a i5_a.toNat o9000_a.length (0 : Int)).length : Int))) (some ((clr o9000_a i5_a.toNat o9000_a.length (0 : Int)).take i5_a.toNat, o9001_af0))))) := by kernel_rfl
theorem ql46c47a (a32c47 : Y32c47) (a47c : Y47c) (N : Nat) : ∀ (m : Nat) (i5_a : Int) (j6_a : Int) (o9000_a : List Int) (o9001_af0 : List Int), R46c47_0 a32c47 a47c N m (Sl46c47a i5_a j6_a o9000_a o9001_af0) = l46c47a a32c47 a47c N m i5_a j6_a o9000_a o9001_af0
        | 0, _, _, _, _ => rfl
        | m + 1, i5_a, j6_a, o9000_a, o9001_af0 => by rw [wl46c47a]; simp only [l46c47a, ql46c47a a32c47 a47c N m]
def m46c47 (a32c47 : Y32c47) (a47c : Y47c) (N : Nat) (p0 : List Int) (p1 : List Int) : Option (List Int × List Int) :=
   (a32c47 p0 p1).bind fun r1 =>
   cond (r1.1 == (-1 : Int)) (some (r1.2.1, r1.2.2))
   ((l46c47a a32c47 a47c N N r1.1 (w64 (r1.1 + (1 : Int))) r1.2.1 r1.2.2))
theorem wm46c47 (a32c47 : Y32c47) (a47c : Y47c) (N : Nat) (p0 : List Int) (p1 : List Int) : callF (E46c47 a32c47 a47c) lv46c47 N en46c47 c46c47 (resOf Tryd.f46) 40 [.row 9000, .fn 47 0 1 fun i => ([.ptr 9001 0 [0]] : List TV).getD i .any] [(9000, .row (.int .i64) p0), (9001, .rcd [.dv (.sl (.int .i64)) p1])] dec46c47 = (a32c47 p0 p1).bind fun r1 =>
   cond (r1.1 == (-1 : Int)) (some (r1.2.1, r1.2.2))
   ((R46c47_0 a32c47 a47c N N (Sl46c47a r1.1 (w64 (r1.1 + (1 : Int))) r1.2.1 r1.2.2))) := by kernel_rfl
theorem k46c47 (a32c47 : Y32c47) (a47c : Y47c) (N : Nat) (p0 : List Int) (p1 : List Int) : callF (E46c47 a32c47 a47c) lv46c47 N en46c47 c46c47 (resOf Tryd.f46) 40 [.row 9000, .fn 47 0 1 fun i => ([.ptr 9001 0 [0]] : List TV).getD i .any] [(9000, .row (.int .i64) p0), (9001, .rcd [.dv (.sl (.int .i64)) p1])] dec46c47 = m46c47 a32c47 a47c N p0 p1 := by rw [wm46c47]; simp only [m46c47, ql46c47a]
theorem ok46c47 (a32c47 : Y32c47) (a47c : Y47c) (h32c47 : FnOk Tryd.prog 32 (F32c47 a32c47)) (h47c : FnOk Tryd.prog 47 (F47c a47c)) (a : Y46c47) (h : ∀ p0 p1 r, a p0 p1 = some r → (∃ N, m46c47 a32c47 a47c N p0 p1 = some r)) : FnOk Tryd.prog 46 (F46c47 a) := by
 intro args Of x hx
 simp only [F46c47] at hx
 split at hx
 ·rename_i f_0 p0 p1 heqc
  have hc0 := congrArg (fun c : List (List TV) => c.getD 0 []) heqc
  obtain ⟨N, hN⟩ := h _ _ _ hx
  refine HSpec.etaL (args := [.row 9000, .fn 47 0 1 fun i => ([.ptr 9001 0 [0]] : List TV).getD i .any]) (O := [(9000, .row (.int .i64) p0), (9001, .rcd [.dv (.sl (.int .i64)) p1])]) ⟨TV.sim_refl _, TV.sim_fn hc0, trivial⟩ ⟨rfl, TO.sim_refl _, rfl, TO.sim_refl _, trivial⟩ (lifted (L := [(32, F32c47 a32c47), (47, F47c a47c)]) (rc := nrc) (fz := (fun i => ([41] : List Nat).contains i)) (fn := Tryd.f46) (by kernel_rfl) (by kernel_rfl) (by kernel_rfl) (by kernel_rfl) rfl ?_ ((k46c47 a32c47 a47c N _ _).trans hN) ?_)
  ·intro p hp; simp only [List.mem_cons, List.not_mem_nil, or_false] at hp; rcases hp with rfl | rfl
   ·exact h32c47
   ·exact h47c
  ·intro l o hd
   simp only [dec46c47] at hd
   split at hd
   ·obtain rfl := Option.some.inj hd; exact ⟨rfl, rfl⟩
   ·cases hd
 ·cases hx
def E26 (a23 : Y23) (a27 : Y27) (a32c48 : Y32c48) (a37 : Y37) (a45 : Y45) (a46c47 : Y46c47) : Env := mkE TI TY [(23, F23 a23), (27, F27 a27), (32, F32c48 a32c48), (37, F37 a37), (45, F45 a45), (46, F46c47 a46c47)] (fun i => ([(9, [some (.sl (.int .i64))])] : List (Nat × List (Option DT))).lookup i) nfz
noncomputable def c26 : Code := bodyOf Tryd.f26
def nm26_0 : Norm := ⟨[1, 2, 4, 6, 24, 25, 26], [2, 4, 6], [(.slot 7, 1007, .int .i64)], []⟩
def nm26_1 : Norm := ⟨[1, 4, 7, 41, 42, 43], [4, 1007, 6], [(.slot 10, 1010, .int .i64)], []⟩
def lv26 : Nat → Option Norm := norms [(4, nm26_0), (11, nm26_1)]
def en26 : End := ⟨[(64, .pair (.sl (.int .i64)) (.pair (.sl (.sl (.int .i64))) (.unit)))], ⟨[64, 65], [], [], []⟩⟩
def dec26 (l : List TV) (o : List (Nat × TO)) : Option (Db × Bool) := match l, o with | [.dv (.pair (.sl (.int .i64)) (.pair (.sl (.sl (.int .i64))) (.unit))) x0, .dv (.bool) x1], [] => some (x0, x1) | _, _ => none
def Sl26b (lx1 : List (List Int)) (in7_a : List Int) (o6_a : List (List Int)) (r6 : Int) (t43_b : Int) (word10_b : List Int) : TS := ⟨slots 64 [(1, .dv (.sl (.sl (.int .i64))) lx1), (4, .ptr 4 0 []), (7, .row 1007), (10, .row 1010), (41, .view 6 0 [] 1 8 0 r6.toNat), (42, .dv (.int .i64) ((r6.toNat - 0 : Nat) : Int)), (43, .dv (.int .i64) t43_b)], [(1010, .row (.int .i64) word10_b), (4, .row (.pair (.sl (.int .i64)) (.pair (.sl (.sl (.int .i64))) (.unit))) ([(([] : List Int), (([] : List (List Int)), ()))] : List Db)), (1007, .row (.int .i64) in7_a), (6, .row (.arr 8 (.int .u8)) o6_a)]⟩
def Sl26a (cx0 : Int × List (List Int) × Unit) (lx1 : List (List Int)) (t26_a : Int) (in7_a : List Int) (o6_a : List (List Int)) : TS := ⟨slots 64 [(1, .dv (.sl (.sl (.int .i64))) lx1), (2, .ptr 2 0 []), (4, .ptr 4 0 []), (6, .ptr 6 0 []), (7, .row 1007), (24, .dv (.sl (.sl (.int .i64))) (lx1.drop 1)), (25, .dv (.int .i64) ((lx1.drop 1).length : Int)), (26, .dv (.int .i64) t26_a)], [(1007, .row (.int .i64) in7_a), (2, .row (.pair (.int .i64) (.pair (.sl (.sl (.int .i64))) (.unit))) ([cx0] : List Cd)), (4, .row (.pair (.sl (.int .i64)) (.pair (.sl (.sl (.int .i64))) (.unit))) ([(([] : List Int), (([] : List (List Int)), ()))] : List Db)), (6, .row (.arr 8 (.int .u8)) o6_a)]⟩
noncomputable def K26_0 (a23 : Y23) (a27 : Y27) (a32c48 : Y32c48) (a37 : Y37) (a45 : Y45) (a46c47 : Y46c47) (N : Nat) : Kont (Db × Bool) := kont (E26 a23 a27 a32c48 a37 a45 a46c47) lv26 N c26 [1, 1, 1, 0, 1, 0] (fin TI en26 (resOf Tryd.f26) dec26)
noncomputable def R26_0 (a23 : Y23) (a27 : Y27) (a32c48 : Y32c48) (a37 : Y37) (a45 : Y45) (a46c47 : Y46c47) (N : Nat) (m : Nat) : TS → Option (Db × Bool) := loopK (den (E26 a23 a27 a32c48 a37 a45 a46c47) lv26 N (sub c26 [1, 1, 1, 0, 1, 0, 0])) (TS.norm nm26_0) (K26_0 a23 a27 a32c48 a37 a45 a46c47 N) m
noncomputable def K26_1 (a23 : Y23) (a27 : Y27) (a32c48 : Y32c48) (a37 : Y37) (a45 : Y45) (a46c47 : Y46c47) (N : Nat) : Kont (Db × Bool) := kont (E26 a23 a27 a32c48 a37 a45 a46c47) lv26 N c26 [1, 1, 1, 1, 1, 0, 1, 0] (fin TI en26 (resOf Tryd.f26) dec26)
noncomputable def R26_1 (a23 : Y23) (a27 : Y27) (a32c48 : Y32c48) (a37 : Y37) (a45 : Y45) (a46c47 : Y46c47) (N : Nat) (m : Nat) : TS → Option (Db × Bool) := loopK (den (E26 a23 a27 a32c48 a37 a45 a46c47) lv26 N (sub c26 [1, 1, 1, 1, 1, 0, 1, 0, 0])) (TS.norm nm26_1) (K26_1 a23 a27 a32c48 a37 a45 a46c47 N) m
def l26b (a23 : Y23) (a27 : Y27) (a32c48 : Y32c48) (a37 : Y37) (a45 : Y45) (a46c47 : Y46c47) (N : Nat) (lx1 : List (List Int)) (in7_a : List Int) (o6_a : List (List Int)) (r6 : Int) : Nat → Int → (List Int) → Option (Db × Bool)
 | 0, _, _ => none
 | n + 1, t43_b, word10_b => cond (decide (t43_b < ((r6.toNat - 0 : Nat) : Int))) (chk (decide (0 ≤ t43_b ∧ t43_b < ((r6.toNat - 0 : Nat) : Int))) ((a32c48 ([(0 : Int), (1 : Int), (2 : Int), (3 : Int)] : List Int) ((o6_a.getD 0 ([(0 : Int), (0 : Int), (0 : Int), (0 : Int), (0 : Int), (0 : Int), (0 : Int), (0 : Int)] : List Int)).getD (0 + t43_b.toNat) (0 : Int))).bind fun r7 =>
   cond (decide (r7.1 < (0 : Int))) (some ((([] : List Int), (([] : List (List Int)), ())), false))
   (chk (small (word10_b.length + 1) 8) ((l26b a23 a27 a32c48 a37 a45 a46c47 N lx1 in7_a o6_a r6 n (w64 (t43_b + (1 : Int))) (word10_b ++ ([r7.1] : List Int)))))))
   (some ((word10_b, (lx1, ())), (in7_a.length : Int) == (0 : Int)))
theorem wl26b (a23 : Y23) (a27 : Y27) (a32c48 : Y32c48) (a37 : Y37) (a45 : Y45) (a46c47 : Y46c47) (N : Nat) (lx1 : List (List Int)) (in7_a : List Int) (o6_a : List (List Int)) (r6 : Int) (m : Nat) (t43_b : Int) (word10_b : List Int) : R26_1 a23 a27 a32c48 a37 a45 a46c47 N (m + 1) (Sl26b lx1 in7_a o6_a r6 t43_b word10_b) = cond (decide (t43_b < ((r6.toNat - 0 : Nat) : Int))) (chk (decide (0 ≤ t43_b ∧ t43_b < ((r6.toNat - 0 : Nat) : Int))) ((a32c48 ([(0 : Int), (1 : Int), (2 : Int), (3 : Int)] : List Int) ((o6_a.getD 0 ([(0 : Int), (0 : Int), (0 : Int), (0 : Int), (0 : Int), (0 : Int), (0 : Int), (0 : Int)] : List Int)).getD (0 + t43_b.toNat) (0 : Int))).bind fun r7 =>
   cond (decide (r7.1 < (0 : Int))) (some ((([] : List Int), (([] : List (List Int)), ())), false))
   (chk (small (word10_b.length + 1) 8) ((R26_1 a23 a27 a32c48 a37 a45 a46c47 N m (Sl26b lx1 in7_a o6_a r6 (w64 (t43_b + (1 : Int))) (word10_b ++ ([r7.1] : List Int))))))))
   (some ((word10_b, (lx1, ())), (in7_a.length : Int) == (0 : Int))) := by kernel_rfl
theorem ql26b (a23 : Y23) (a27 : Y27) (a32c48 : Y32c48) (a37 : Y37) (a45 : Y45) (a46c47 : Y46c47) (N : Nat) (lx1 : List (List Int)) (in7_a : List Int) (o6_a : List (List Int)) (r6 : Int) : ∀ (m : Nat) (t43_b : Int) (word10_b : List Int), R26_1 a23 a27 a32c48 a37 a45 a46c47 N m (Sl26b lx1 in7_a o6_a r6 t43_b word10_b) = l26b a23 a27 a32c48 a37 a45 a46c47 N lx1 in7_a o6_a r6 m t43_b word10_b
        | 0, _, _ => rfl
        | m + 1, t43_b, word10_b => by rw [wl26b]; simp only [l26b, ql26b a23 a27 a32c48 a37 a45 a46c47 N lx1 in7_a o6_a r6 m]
def l26a (a23 : Y23) (a27 : Y27) (a32c48 : Y32c48) (a37 : Y37) (a45 : Y45) (a46c47 : Y46c47) (N : Nat) (cx0 : Int × List (List Int) × Unit) (lx1 : List (List Int)) : Nat → Int → (List Int) → (List (List Int)) → Option (Db × Bool)
 | 0, _, _, _ => none
 | n + 1, t26_a, in7_a, o6_a => cond (decide (t26_a < ((lx1.drop 1).length : Int))) (chk (decide (0 ≤ t26_a ∧ t26_a < ((lx1.drop 1).length : Int))) ((a37 cx0 ((lx1.drop 1).getD t26_a.toNat ([] : List Int))).bind fun r3 =>
   (a45 (o6_a.getD 0 ([(0 : Int), (0 : Int), (0 : Int), (0 : Int), (0 : Int), (0 : Int), (0 : Int), (0 : Int)] : List Int)) r3).bind fun r4 =>
   (a46c47 in7_a ((lx1.drop 1).getD t26_a.toNat ([] : List Int))).bind fun r5 =>
   (l26a a23 a27 a32c48 a37 a45 a46c47 N cx0 lx1 n (w64 (t26_a + (1 : Int))) r5.1 (o6_a.set 0 r4))))
   ((a23 cx0).bind fun r6 =>
   chk (decide (0 ≤ r6 ∧ r6 ≤ (8 : Int)) && true) ((l26b a23 a27 a32c48 a37 a45 a46c47 N lx1 in7_a o6_a r6 N (0 : Int) ([] : List Int))))
theorem wl26a (a23 : Y23) (a27 : Y27) (a32c48 : Y32c48) (a37 : Y37) (a45 : Y45) (a46c47 : Y46c47) (N : Nat) (cx0 : Int × List (List Int) × Unit) (lx1 : List (List Int)) (m : Nat) (t26_a : Int) (in7_a : List Int) (o6_a : List (List Int)) : R26_0 a23 a27 a32c48 a37 a45 a46c47 N (m + 1) (Sl26a cx0 lx1 t26_a in7_a o6_a) = cond (decide (t26_a < ((lx1.drop 1).length : Int))) (chk (decide (0 ≤ t26_a ∧ t26_a < ((lx1.drop 1).length : Int))) ((a37 cx0 ((lx1.drop 1).getD t26_a.toNat ([] : List Int))).bind fun r3 =>
   (a45 (o6_a.getD 0 ([(0 : Int), (0 : Int), (0 : Int), (0 : Int), (0 : Int), (0 : Int), (0 : Int), (0 : Int)] : List Int)) r3).bind fun r4 =>
   (a46c47 in7_a ((lx1.drop 1).getD t26_a.toNat ([] : List Int))).bind fun r5 =>
   (R26_0 a23 a27 a32c48 a37 a45 a46c47 N m (Sl26a cx0 lx1 (w64 (t26_a + (1 : Int))) r5.1 (o6_a.set 0 r4)))))
   ((a23 cx0).bind fun r6 =>
   chk (decide (0 ≤ r6 ∧ r6 ≤ (8 : Int)) && true) ((R26_1 a23 a27 a32c48 a37 a45 a46c47 N N (Sl26b lx1 in7_a o6_a r6 (0 : Int) ([] : List Int))))) := by kernel_rfl
theorem ql26a (a23 : Y23) (a27 : Y27) (a32c48 : Y32c48) (a37 : Y37) (a45 : Y45) (a46c47 : Y46c47) (N : Nat) (cx0 : Int × List (List Int) × Unit) (lx1 : List (List Int)) : ∀ (m : Nat) (t26_a : Int) (in7_a : List Int) (o6_a : List (List Int)), R26_0 a23 a27 a32c48 a37 a45 a46c47 N m (Sl26a cx0 lx1 t26_a in7_a o6_a) = l26a a23 a27 a32c48 a37 a45 a46c47 N cx0 lx1 m t26_a in7_a o6_a
        | 0, _, _, _ => rfl
        | m + 1, t26_a, in7_a, o6_a => by rw [wl26a]; simp only [l26a, ql26b, ql26a a23 a27 a32c48 a37 a45 a46c47 N cx0 lx1 m]
def m26 (a23 : Y23) (a27 : Y27) (a32c48 : Y32c48) (a37 : Y37) (a45 : Y45) (a46c47 : Y46c47) (N : Nat) (cx0 : Int × List (List Int) × Unit) (lx1 : List (List Int)) : Option (Db × Bool) :=
   chk (decide (0 ≤ (0 : Int) ∧ (0 : Int) < (lx1.length : Int))) ((a37 cx0 (lx1.getD 0 ([] : List Int))).bind fun r1 =>
   chk (decide (0 ≤ (0 : Int) ∧ (0 : Int) < (lx1.length : Int))) (chk ((decide (0 < (lx1.getD 0 ([] : List Int)).length)) && (true)) ((a27 (some (lx1.getD 0 ([] : List Int)))).bind fun r2 =>
   chk (decide (0 ≤ (1 : Int) ∧ (1 : Int) ≤ (lx1.length : Int))) ((l26a a23 a27 a32c48 a37 a45 a46c47 N cx0 lx1 N (0 : Int) r2 ([r1] : List (List Int)))))))
theorem wm26 (a23 : Y23) (a27 : Y27) (a32c48 : Y32c48) (a37 : Y37) (a45 : Y45) (a46c47 : Y46c47) (N : Nat) (cx0 : Int × List (List Int) × Unit) (lx1 : List (List Int)) : callF (E26 a23 a27 a32c48 a37 a45 a46c47) lv26 N en26 c26 (resOf Tryd.f26) 62 [.dv (.pair (.int .i64) (.pair (.sl (.sl (.int .i64))) (.unit))) cx0, .dv (.sl (.sl (.int .i64))) lx1] [] dec26 = chk (decide (0 ≤ (0 : Int) ∧ (0 : Int) < (lx1.length : Int))) ((a37 cx0 (lx1.getD 0 ([] : List Int))).bind fun r1 =>
   chk (decide (0 ≤ (0 : Int) ∧ (0 : Int) < (lx1.length : Int))) (chk ((decide (0 < (lx1.getD 0 ([] : List Int)).length)) && (true)) ((a27 (some (lx1.getD 0 ([] : List Int)))).bind fun r2 =>
   chk (decide (0 ≤ (1 : Int) ∧ (1 : Int) ≤ (lx1.length : Int))) ((R26_0 a23 a27 a32c48 a37 a45 a46c47 N N (Sl26a cx0 lx1 (0 : Int) r2 ([r1] : List (List Int)))))))) := by kernel_rfl
theorem k26 (a23 : Y23) (a27 : Y27) (a32c48 : Y32c48) (a37 : Y37) (a45 : Y45) (a46c47 : Y46c47) (N : Nat) (cx0 : Int × List (List Int) × Unit) (lx1 : List (List Int)) : callF (E26 a23 a27 a32c48 a37 a45 a46c47) lv26 N en26 c26 (resOf Tryd.f26) 62 [.dv (.pair (.int .i64) (.pair (.sl (.sl (.int .i64))) (.unit))) cx0, .dv (.sl (.sl (.int .i64))) lx1] [] dec26 = m26 a23 a27 a32c48 a37 a45 a46c47 N cx0 lx1 := by rw [wm26]; simp only [m26, ql26a]
theorem ok26 (a23 : Y23) (a27 : Y27) (a32c48 : Y32c48) (a37 : Y37) (a45 : Y45) (a46c47 : Y46c47) (h23 : FnOk Tryd.prog 23 (F23 a23)) (h27 : FnOk Tryd.prog 27 (F27 a27)) (h32c48 : FnOk Tryd.prog 32 (F32c48 a32c48)) (h37 : FnOk Tryd.prog 37 (F37 a37)) (h45 : FnOk Tryd.prog 45 (F45 a45)) (h46c47 : FnOk Tryd.prog 46 (F46c47 a46c47)) (a : Y26) (h : ∀ cx0 lx1 r, a cx0 lx1 = some r → (∃ N, m26 a23 a27 a32c48 a37 a45 a46c47 N cx0 lx1 = some r)) : FnOk Tryd.prog 26 (F26 a) := by
 intro args Of x hx
 simp only [F26] at hx
 split at hx
 ·rename_i cx0 lx1
  obtain ⟨N, hN⟩ := h _ _ _ hx
  refine lifted (L := [(23, F23 a23), (27, F27 a27), (32, F32c48 a32c48), (37, F37 a37), (45, F45 a45), (46, F46c47 a46c47)]) (rc := (fun i => ([(9, [some (.sl (.int .i64))])] : List (Nat × List (Option DT))).lookup i)) (fz := nfz) (fn := Tryd.f26) (by kernel_rfl) (by kernel_rfl) (by kernel_rfl) (by kernel_rfl) rfl ?_ ((k26 a23 a27 a32c48 a37 a45 a46c47 N _ _).trans hN) ?_
  ·intro p hp; simp only [List.mem_cons, List.not_mem_nil, or_false] at hp; rcases hp with rfl | rfl | rfl | rfl | rfl | rfl
   ·exact h23
   ·exact h27
   ·exact h32c48
   ·exact h37
   ·exact h45
   ·exact h46c47
  ·intro l o hd
   simp only [dec26] at hd
   split at hd
   ·obtain rfl := Option.some.inj hd; exact ⟨rfl, rfl⟩
   ·cases hd
 ·cases hx
def E9 (a22 : Y22) (a25 : Y25) (a26 : Y26) (a27 : Y27) : Env := mkEq TI TY [(22, F22 a22), (25, F25 a25), (26, F26 a26), (27, F27 a27)] (fun i => ([(5, [some (.sl (.int .i64))])] : List (Nat × List (Option DT))).lookup i) nfz coalSeq
noncomputable def c9 : Code := bodyOf Tryd.f9
def nm9_0 : Norm := ⟨[1, 2, 3, 19], [1, 2, 3], [], []⟩
def nm9_1 : Norm := ⟨[1, 2, 3, 5, 22], [1, 2, 3, 5], [], []⟩
def nm9_2 : Norm := ⟨[1, 2, 3, 37], [1, 2, 3], [], []⟩
def lv9 : Nat → Option Norm := norms [(6, nm9_0), (8, nm9_1), (13, nm9_2)]
def en9 : End := ⟨[(72, .pair (.sl (.int .i64)) (.pair (.sl (.sl (.int .i64))) (.unit)))], ⟨[72, 73], [], [], []⟩⟩
def dec9 (l : List TV) (o : List (Nat × TO)) : Option (Db × Int) := match l, o with | [.dv (.pair (.sl (.int .i64)) (.pair (.sl (.sl (.int .i64))) (.unit))) x0, .dv (.int .i64) x1], [] => some (x0, x1) | _, _ => none
def Sl9b (cx0 : Int × List (List Int) × Unit) (r3 : Int × Int × List (List Int) × Unit) : TS := ⟨slots 72 [(1, .ptr 1 0 []), (2, .ptr 2 0 []), (3, .ptr 3 0 [0]), (37, .fn 42 0 2 fun i => ([.el (.int .i64) r3.1 [], .el (.pair (.int .i64) (.pair (.sl (.sl (.int .i64))) (.unit))) r3.2 []] : List TV).getD i .any)], [(1, .row (.pair (.int .i64) (.pair (.sl (.sl (.int .i64))) (.unit))) ([cx0] : List Cd)), (2, .row (.pair (.sl (.int .i64)) (.pair (.sl (.sl (.int .i64))) (.unit))) ([(([] : List Int), (([] : List (List Int)), ()))] : List Db)), (3, .rcd [.dv (.int .i64) (0 : Int)])]⟩
def Sl9c (cx0 : Int × List (List Int) × Unit) (e6a : List Int) (r7 : Int × Int × List (List Int) × Unit) : TS := ⟨slots 72 [(1, .ptr 1 0 []), (2, .ptr 2 0 []), (3, .ptr 3 0 [0]), (5, .ptr 5 0 [0]), (22, .fn 42 0 2 fun i => ([.el (.int .i64) r7.1 [], .el (.pair (.int .i64) (.pair (.sl (.sl (.int .i64))) (.unit))) r7.2 []] : List TV).getD i .any)], [(1, .row (.pair (.int .i64) (.pair (.sl (.sl (.int .i64))) (.unit))) ([cx0] : List Cd)), (2, .row (.pair (.sl (.int .i64)) (.pair (.sl (.sl (.int .i64))) (.unit))) ([(([] : List Int), (([] : List (List Int)), ()))] : List Db)), (3, .rcd [.dv (.int .i64) (0 : Int)]), (5, .rcd [.dv (.sl (.int .i64)) e6a])]⟩
def Sl9a (cx0 : Int × List (List Int) × Unit) (r2 : Int × Int × List (List Int) × Unit) : TS := ⟨slots 72 [(1, .ptr 1 0 []), (2, .ptr 2 0 []), (3, .ptr 3 0 [0]), (19, .fn 42 0 2 fun i => ([.el (.int .i64) r2.1 [], .el (.pair (.int .i64) (.pair (.sl (.sl (.int .i64))) (.unit))) r2.2 []] : List TV).getD i .any)], [(1, .row (.pair (.int .i64) (.pair (.sl (.sl (.int .i64))) (.unit))) ([cx0] : List Cd)), (2, .row (.pair (.sl (.int .i64)) (.pair (.sl (.sl (.int .i64))) (.unit))) ([(([] : List Int), (([] : List (List Int)), ()))] : List Db)), (3, .rcd [.dv (.int .i64) (0 : Int)])]⟩
noncomputable def K9_0 (a22 : Y22) (a25 : Y25) (a26 : Y26) (a27 : Y27) (N : Nat) : Kont (Db × Int) := kont (E9 a22 a25 a26 a27) lv9 N c9 [1, 1, 0, 1, 0] (fin TI en9 (resOf Tryd.f9) dec9)
noncomputable def R9_0 (a22 : Y22) (a25 : Y25) (a26 : Y26) (a27 : Y27) (N : Nat) (xs : List (List Int)) : TS → Option (Db × Int) := seqK (β := List Int) (fun x s1 K => roundK (denP (E9 a22 a25 a26 a27) lv9 N (sub c9 [1, 1, 0, 1, 0, 0])) (denP (E9 a22 a25 a26 a27) lv9 N (sub c9 [1, 1, 0, 1, 0, 1])) 20 (.dv (.sl (.int .i64)) x) s1 K) (TS.norm nm9_0) (K9_0 a22 a25 a26 a27 N) xs
noncomputable def K9_1 (a22 : Y22) (a25 : Y25) (a26 : Y26) (a27 : Y27) (N : Nat) (cx0 : Int × List (List Int) × Unit) (r2 : Int × Int × List (List Int) × Unit) (e6a : List Int) (T9_0 : TS → Option (Db × Int)) : Kont (Db × Int) := kontP (E9 a22 a25 a26 a27) lv9 N [5, 5, 1, 2, 3] (sub c9 [1, 1, 0, 1, 0, 1]) [0, 1, 0] (kround (Sl9a cx0 r2).sl ([(5, .rcd [.dv (.sl (.int .i64)) e6a]), (5, .rcd [.dv (.sl (.int .i64)) ([] : List Int)])] ++ (Sl9a cx0 r2).ob) (TS.norm nm9_0) (K9_0 a22 a25 a26 a27 N) T9_0)
noncomputable def R9_1 (a22 : Y22) (a25 : Y25) (a26 : Y26) (a27 : Y27) (N : Nat) (cx0 : Int × List (List Int) × Unit) (r2 : Int × Int × List (List Int) × Unit) (e6a : List Int) (T9_0 : TS → Option (Db × Int)) (xs : List (List Int)) : TS → Option (Db × Int) := seqK (β := List Int) (fun x s1 K => roundK (denP (E9 a22 a25 a26 a27) lv9 N (sub c9 [1, 1, 0, 1, 0, 1, 0, 1, 0, 0])) (denP (E9 a22 a25 a26 a27) lv9 N (sub c9 [1, 1, 0, 1, 0, 1, 0, 1, 0, 1])) 23 (.dv (.sl (.int .i64)) x) s1 K) (TS.normP [5, 5, 1, 2, 3] nm9_1) (K9_1 a22 a25 a26 a27 N cx0 r2 e6a T9_0) xs
noncomputable def K9_2 (a22 : Y22) (a25 : Y25) (a26 : Y26) (a27 : Y27) (N : Nat) : Kont (Db × Int) := kont (E9 a22 a25 a26 a27) lv9 N c9 [1, 1, 1, 0, 1, 0] (fin TI en9 (resOf Tryd.f9) dec9)
noncomputable def R9_2 (a22 : Y22) (a25 : Y25) (a26 : Y26) (a27 : Y27) (N : Nat) (xs : List (List Int)) : TS → Option (Db × Int) := seqK (β := List Int) (fun x s1 K => roundK (denP (E9 a22 a25 a26 a27) lv9 N (sub c9 [1, 1, 1, 0, 1, 0, 0])) (denP (E9 a22 a25 a26 a27) lv9 N (sub c9 [1, 1, 1, 0, 1, 0, 1])) 38 (.dv (.sl (.int .i64)) x) s1 K) (TS.norm nm9_2) (K9_2 a22 a25 a26 a27 N) xs
def l9b (a22 : Y22) (a25 : Y25) (a26 : Y26) (a27 : Y27) (N : Nat) (cx0 : Int × List (List Int) × Unit) (r3 : Int × Int × List (List Int) × Unit) : List (List Int) → Option (Db × Int)
 | [] => some ((([] : List Int), (([] : List (List Int)), ())), (14 : Int))
 | e4b :: rr => cond (decide ((e4b.length : Int) < (3 : Int))) ((l9b a22 a25 a26 a27 N cx0 r3 rr))
   (chk (decide (0 ≤ (0 : Int) ∧ (0 : Int) < (e4b.length : Int))) (chk (decide (0 ≤ (1 : Int) ∧ (1 : Int) < (e4b.length : Int))) (chk (decide (0 ≤ (0 : Int) ∧ (0 : Int) < (e4b.length : Int))) (chk (decide (0 ≤ (2 : Int) ∧ (2 : Int) < (e4b.length : Int))) (chk (decide (0 ≤ (1 : Int) ∧ (1 : Int) < (e4b.length : Int))) (chk (decide (0 ≤ (2 : Int) ∧ (2 : Int) < (e4b.length : Int))) ((a26 cx0 ([([e4b.getD 0 (0 : Int), e4b.getD 1 (0 : Int)] : List Int), ([e4b.getD 0 (0 : Int), e4b.getD 2 (0 : Int)] : List Int), ([e4b.getD 1 (0 : Int), e4b.getD 2 (0 : Int)] : List Int)] : List (List Int))).bind fun r5 =>
   cond (r5.2) (some (r5.1, (0 : Int)))
   ((l9b a22 a25 a26 a27 N cx0 r3 rr)))))))))
theorem wl9b_0 (a22 : Y22) (a25 : Y25) (a26 : Y26) (a27 : Y27) (N : Nat) (cx0 : Int × List (List Int) × Unit) (r3 : Int × Int × List (List Int) × Unit) : R9_2 a22 a25 a26 a27 N [] (Sl9b cx0 r3) = some ((([] : List Int), (([] : List (List Int)), ())), (14 : Int)) := by kernel_rfl
theorem wl9b_1 (a22 : Y22) (a25 : Y25) (a26 : Y26) (a27 : Y27) (N : Nat) (cx0 : Int × List (List Int) × Unit) (r3 : Int × Int × List (List Int) × Unit) (e4b : List Int) (rr : List (List Int)) : R9_2 a22 a25 a26 a27 N (e4b :: rr) (Sl9b cx0 r3) = cond (decide ((e4b.length : Int) < (3 : Int))) ((R9_2 a22 a25 a26 a27 N rr (Sl9b cx0 r3)))
   (chk (decide (0 ≤ (0 : Int) ∧ (0 : Int) < (e4b.length : Int))) (chk (decide (0 ≤ (1 : Int) ∧ (1 : Int) < (e4b.length : Int))) (chk (decide (0 ≤ (0 : Int) ∧ (0 : Int) < (e4b.length : Int))) (chk (decide (0 ≤ (2 : Int) ∧ (2 : Int) < (e4b.length : Int))) (chk (decide (0 ≤ (1 : Int) ∧ (1 : Int) < (e4b.length : Int))) (chk (decide (0 ≤ (2 : Int) ∧ (2 : Int) < (e4b.length : Int))) ((a26 cx0 ([([e4b.getD 0 (0 : Int), e4b.getD 1 (0 : Int)] : List Int), ([e4b.getD 0 (0 : Int), e4b.getD 2 (0 : Int)] : List Int), ([e4b.getD 1 (0 : Int), e4b.getD 2 (0 : Int)] : List Int)] : List (List Int))).bind fun r5 =>
   cond (r5.2) (some (r5.1, (0 : Int)))
   ((R9_2 a22 a25 a26 a27 N rr (Sl9b cx0 r3)))))))))) := by kernel_rfl
theorem ql9b (a22 : Y22) (a25 : Y25) (a26 : Y26) (a27 : Y27) (N : Nat) (cx0 : Int × List (List Int) × Unit) (r3 : Int × Int × List (List Int) × Unit) : ∀ (m : List (List Int)), R9_2 a22 a25 a26 a27 N m (Sl9b cx0 r3) = l9b a22 a25 a26 a27 N cx0 r3 m
        | [] => by rw [wl9b_0]; simp only [l9b]
        | e4b :: rr => by rw [wl9b_1]; simp only [l9b, ql9b a22 a25 a26 a27 N cx0 r3 rr]
def l9c (a22 : Y22) (a25 : Y25) (a26 : Y26) (a27 : Y27) (N : Nat) (cx0 : Int × List (List Int) × Unit) (e6a : List Int) (r7 : Int × Int × List (List Int) × Unit) (rec_l9a : Option (Db × Int)) : List (List Int) → Option (Db × Int)
 | [] => rec_l9a
 | e8c :: rr => chk ((decide (0 < e6a.length)) && (true)) ((a27 (some e6a)).bind fun r9 =>
   chk ((decide (0 < e8c.length)) && (true)) ((a27 (some e8c)).bind fun r10 =>
   (a26 cx0 ([r9, r10] : List (List Int))).bind fun r11 =>
   cond (r11.2) (some (r11.1, (0 : Int)))
   ((l9c a22 a25 a26 a27 N cx0 e6a r7 rec_l9a rr))))
theorem wl9c_0 (a22 : Y22) (a25 : Y25) (a26 : Y26) (a27 : Y27) (N : Nat) (cx0 : Int × List (List Int) × Unit) (r2 : Int × Int × List (List Int) × Unit) (e6a : List Int) (r7 : Int × Int × List (List Int) × Unit) (T9_0 : TS → Option (Db × Int)) : R9_1 a22 a25 a26 a27 N cx0 r2 e6a T9_0 [] (Sl9c cx0 e6a r7) = (T9_0 (Sl9a cx0 r2)) := by kernel_rfl
theorem wl9c_1 (a22 : Y22) (a25 : Y25) (a26 : Y26) (a27 : Y27) (N : Nat) (cx0 : Int × List (List Int) × Unit) (r2 : Int × Int × List (List Int) × Unit) (e6a : List Int) (r7 : Int × Int × List (List Int) × Unit) (T9_0 : TS → Option (Db × Int)) (e8c : List Int) (rr : List (List Int)) : R9_1 a22 a25 a26 a27 N cx0 r2 e6a T9_0 (e8c :: rr) (Sl9c cx0 e6a r7) = chk ((decide (0 < e6a.length)) && (true)) ((a27 (some e6a)).bind fun r9 =>
   chk ((decide (0 < e8c.length)) && (true)) ((a27 (some e8c)).bind fun r10 =>
   (a26 cx0 ([r9, r10] : List (List Int))).bind fun r11 =>
   cond (r11.2) (some (r11.1, (0 : Int)))
   ((R9_1 a22 a25 a26 a27 N cx0 r2 e6a T9_0 rr (Sl9c cx0 e6a r7))))) := by kernel_rfl
theorem ql9c (a22 : Y22) (a25 : Y25) (a26 : Y26) (a27 : Y27) (N : Nat) (cx0 : Int × List (List Int) × Unit) (r2 : Int × Int × List (List Int) × Unit) (e6a : List Int) (r7 : Int × Int × List (List Int) × Unit) (T9_0 : TS → Option (Db × Int)) : ∀ (m : List (List Int)), R9_1 a22 a25 a26 a27 N cx0 r2 e6a T9_0 m (Sl9c cx0 e6a r7) = l9c a22 a25 a26 a27 N cx0 e6a r7 (T9_0 (Sl9a cx0 r2)) m
        | [] => by rw [wl9c_0]; simp only [l9c]
        | e8c :: rr => by rw [wl9c_1]; simp only [l9c, ql9c a22 a25 a26 a27 N cx0 r2 e6a r7 T9_0 rr]
def l9a (a22 : Y22) (a25 : Y25) (a26 : Y26) (a27 : Y27) (N : Nat) (cx0 : Int × List (List Int) × Unit) (r2 : Int × Int × List (List Int) × Unit) : List (List Int) → Option (Db × Int)
 | [] => (a25 cx0 (3 : Int)).bind fun r3 =>
   chk (decide (0 ≤ r3.1 ∧ ((List.length r3.2.2.1 : Nat) : Int) * 8 ≤ 140737488355328)) ((l9b a22 a25 a26 a27 N cx0 r3 (gr (List.length r3.2.2.1) (Int.toNat r3.1) [] 0)))
 | e6a :: rr => (a25 cx0 (2 : Int)).bind fun r7 =>
   chk (decide (0 ≤ r7.1 ∧ ((List.length r7.2.2.1 : Nat) : Int) * 8 ≤ 140737488355328)) ((l9c a22 a25 a26 a27 N cx0 e6a r7 (l9a a22 a25 a26 a27 N cx0 r2 rr) (gr (List.length r7.2.2.1) (Int.toNat r7.1) [] 0)))
theorem wl9a_0 (a22 : Y22) (a25 : Y25) (a26 : Y26) (a27 : Y27) (N : Nat) (cx0 : Int × List (List Int) × Unit) (r2 : Int × Int × List (List Int) × Unit) : R9_0 a22 a25 a26 a27 N [] (Sl9a cx0 r2) = (a25 cx0 (3 : Int)).bind fun r3 =>
   chk (decide (0 ≤ r3.1 ∧ ((List.length r3.2.2.1 : Nat) : Int) * 8 ≤ 140737488355328)) ((R9_2 a22 a25 a26 a27 N (gr (List.length r3.2.2.1) (Int.toNat r3.1) [] 0) (Sl9b cx0 r3))) := by kernel_rfl
theorem wl9a_1 (a22 : Y22) (a25 : Y25) (a26 : Y26) (a27 : Y27) (N : Nat) (cx0 : Int × List (List Int) × Unit) (r2 : Int × Int × List (List Int) × Unit) (e6a : List Int) (rr : List (List Int)) : R9_0 a22 a25 a26 a27 N (e6a :: rr) (Sl9a cx0 r2) = (a25 cx0 (2 : Int)).bind fun r7 =>
   chk (decide (0 ≤ r7.1 ∧ ((List.length r7.2.2.1 : Nat) : Int) * 8 ≤ 140737488355328)) ((R9_1 a22 a25 a26 a27 N cx0 r2 e6a (R9_0 a22 a25 a26 a27 N rr) (gr (List.length r7.2.2.1) (Int.toNat r7.1) [] 0) (Sl9c cx0 e6a r7))) := by kernel_rfl
theorem ql9a (a22 : Y22) (a25 : Y25) (a26 : Y26) (a27 : Y27) (N : Nat) (cx0 : Int × List (List Int) × Unit) (r2 : Int × Int × List (List Int) × Unit) : ∀ (m : List (List Int)), R9_0 a22 a25 a26 a27 N m (Sl9a cx0 r2) = l9a a22 a25 a26 a27 N cx0 r2 m
        | [] => by rw [wl9a_0]; simp only [l9a, ql9b]
        | e6a :: rr => by rw [wl9a_1]; simp only [l9a, ql9c, ql9a a22 a25 a26 a27 N cx0 r2 rr]
def m9 (a22 : Y22) (a25 : Y25) (a26 : Y26) (a27 : Y27) (N : Nat) (cx0 : Int × List (List Int) × Unit) : Option (Db × Int) :=
   (a22 cx0).bind fun r1 =>
   cond (r1 != (0 : Int)) (some ((([] : List Int), (([] : List (List Int)), ())), r1))
   ((a25 cx0 (2 : Int)).bind fun r2 =>
   chk (decide (0 ≤ r2.1 ∧ ((List.length r2.2.2.1 : Nat) : Int) * 8 ≤ 140737488355328)) ((l9a a22 a25 a26 a27 N cx0 r2 (gr (List.length r2.2.2.1) (Int.toNat r2.1) [] 0))))
theorem wm9 (a22 : Y22) (a25 : Y25) (a26 : Y26) (a27 : Y27) (N : Nat) (cx0 : Int × List (List Int) × Unit) : callF (E9 a22 a25 a26 a27) lv9 N en9 c9 (resOf Tryd.f9) 71 [.dv (.pair (.int .i64) (.pair (.sl (.sl (.int .i64))) (.unit))) cx0] [] dec9 = (a22 cx0).bind fun r1 =>
   cond (r1 != (0 : Int)) (some ((([] : List Int), (([] : List (List Int)), ())), r1))
   ((a25 cx0 (2 : Int)).bind fun r2 =>
   chk (decide (0 ≤ r2.1 ∧ ((List.length r2.2.2.1 : Nat) : Int) * 8 ≤ 140737488355328)) ((R9_0 a22 a25 a26 a27 N (gr (List.length r2.2.2.1) (Int.toNat r2.1) [] 0) (Sl9a cx0 r2)))) := by kernel_rfl
theorem k9 (a22 : Y22) (a25 : Y25) (a26 : Y26) (a27 : Y27) (N : Nat) (cx0 : Int × List (List Int) × Unit) : callF (E9 a22 a25 a26 a27) lv9 N en9 c9 (resOf Tryd.f9) 71 [.dv (.pair (.int .i64) (.pair (.sl (.sl (.int .i64))) (.unit))) cx0] [] dec9 = m9 a22 a25 a26 a27 N cx0 := by rw [wm9]; simp only [m9, ql9a]
theorem ok9 (a22 : Y22) (a25 : Y25) (a26 : Y26) (a27 : Y27) (h22 : FnOk Tryd.prog 22 (F22 a22)) (h25 : FnOk Tryd.prog 25 (F25 a25)) (h26 : FnOk Tryd.prog 26 (F26 a26)) (h27 : FnOk Tryd.prog 27 (F27 a27)) (a : Y9) (h : ∀ cx0 r, a cx0 = some r → (∃ N, m9 a22 a25 a26 a27 N cx0 = some r)) : FnOk Tryd.prog 9 (F9 a) := by
 intro args Of x hx
 simp only [F9] at hx
 split at hx
 ·rename_i cx0
  obtain ⟨N, hN⟩ := h _ _ hx
  refine liftedQ (L := [(22, F22 a22), (25, F25 a25), (26, F26 a26), (27, F27 a27)]) (rc := (fun i => ([(5, [some (.sl (.int .i64))])] : List (Nat × List (Option DT))).lookup i)) (fz := nfz) (fn := Tryd.f9) (by kernel_rfl) (by kernel_rfl) (by kernel_rfl) (by kernel_rfl) rfl ?_ coalSeq_ok ((k9 a22 a25 a26 a27 N _).trans hN) ?_
  ·intro p hp; simp only [List.mem_cons, List.not_mem_nil, or_false] at hp; rcases hp with rfl | rfl | rfl | rfl
   ·exact h22
   ·exact h25
   ·exact h26
   ·exact h27
  ·intro l o hd
   simp only [dec9] at hd
   split at hd
   ·obtain rfl := Option.some.inj hd; exact ⟨rfl, rfl⟩
   ·cases hd
 ·cases hx
def E3 (a10 : Y10) (a4 : Y4) (a5 : Y5) (a6 : Y6) (a7 : Y7) (a8 : Y8) (a9 : Y9) : Env := mkE TI TY [(10, F10 a10), (4, F4 a4), (5, F5 a5), (6, F6 a6), (7, F7 a7), (8, F8 a8), (9, F9 a9)] (fun i => ([(16, [some (.int .i64), none]), (53, [some (.int .i64), none])] : List (Nat × List (Option DT))).lookup i) nfz
noncomputable def c3 : Code := bodyOf Tryd.f3
def nm3_0 : Norm := ⟨[4, 11, 12, 13, 14, 15], [], [], []⟩
def nm3_1 : Norm := ⟨[4, 12, 13, 14, 16, 17, 18], [16, 54], [(.fld 16 1, 2100, .sl (.int .i64))], []⟩
def lv3 : Nat → Option Norm := norms [(8, nm3_0), (14, nm3_1)]
def en3 : End := ⟨[], ⟨[143], [], [], []⟩⟩
def dec3 (l : List TV) (o : List (Nat × TO)) : Option (Bool) := match l, o with | [.dv (.bool) x0], [] => some (x0) | _, _ => none
def Sl3b (base0 : Int) (size3 : Int) (customers4 : List Int) (r1 : List (List Int)) (all14_a : Int) (i18_b : Int) (o2100_b : List (List Int)) (o54_b : List (Int × Bool)) : TS := ⟨slots 143 [(4, .dv (.sl (.int .u8)) customers4), (12, .dv (.sl (.sl (.int .i64))) r1), (13, .dv (.int .i64) (w64 ((2 : Int) + (Int.tmod (w64 (size3)) (3 : Int))))), (14, .dv (.int .i64) all14_a), (16, .ptr 16 0 []), (17, .row 54), (18, .dv (.int .i64) i18_b)], [(2100, .row (.sl (.int .i64)) o2100_b), (16, .rcd [.dv (.int .i64) (w64 ((2 : Int) + (Int.tmod (w64 (base0)) (3 : Int)))), .row 2100]), (54, .map (.int .i64) (.bool) o54_b)]⟩
def Sl3a (base0 : Int) (size3 : Int) (customers4 : List Int) (r1 : List (List Int)) (all14_a : Int) (i15_a : Int) : TS := ⟨slots 143 [(4, .dv (.sl (.int .u8)) customers4), (11, .dv (.int .i64) (w64 ((2 : Int) + (Int.tmod (w64 (base0)) (3 : Int))))), (12, .dv (.sl (.sl (.int .i64))) r1), (13, .dv (.int .i64) (w64 ((2 : Int) + (Int.tmod (w64 (size3)) (3 : Int))))), (14, .dv (.int .i64) all14_a), (15, .dv (.int .i64) i15_a)], []⟩
noncomputable def K3_0 (a10 : Y10) (a4 : Y4) (a5 : Y5) (a6 : Y6) (a7 : Y7) (a8 : Y8) (a9 : Y9) (N : Nat) : Kont (Bool) := kont (E3 a10 a4 a5 a6 a7 a8 a9) lv3 N c3 [1, 1, 1, 1, 1, 1, 0, 1, 0] (fin TI en3 (resOf Tryd.f3) dec3)
noncomputable def R3_0 (a10 : Y10) (a4 : Y4) (a5 : Y5) (a6 : Y6) (a7 : Y7) (a8 : Y8) (a9 : Y9) (N : Nat) (m : Nat) : TS → Option (Bool) := loopK (den (E3 a10 a4 a5 a6 a7 a8 a9) lv3 N (sub c3 [1, 1, 1, 1, 1, 1, 0, 1, 0, 0])) (TS.norm nm3_0) (K3_0 a10 a4 a5 a6 a7 a8 a9 N) m
noncomputable def K3_1 (a10 : Y10) (a4 : Y4) (a5 : Y5) (a6 : Y6) (a7 : Y7) (a8 : Y8) (a9 : Y9) (N : Nat) : Kont (Bool) := kont (E3 a10 a4 a5 a6 a7 a8 a9) lv3 N c3 [1, 1, 1, 1, 1, 1, 1, 1, 1, 0, 1, 0] (fin TI en3 (resOf Tryd.f3) dec3)
noncomputable def R3_1 (a10 : Y10) (a4 : Y4) (a5 : Y5) (a6 : Y6) (a7 : Y7) (a8 : Y8) (a9 : Y9) (N : Nat) (m : Nat) : TS → Option (Bool) := loopK (den (E3 a10 a4 a5 a6 a7 a8 a9) lv3 N (sub c3 [1, 1, 1, 1, 1, 1, 1, 1, 1, 0, 1, 0, 0])) (TS.norm nm3_1) (K3_1 a10 a4 a5 a6 a7 a8 a9 N) m
def l3b (a10 : Y10) (a4 : Y4) (a5 : Y5) (a6 : Y6) (a7 : Y7) (a8 : Y8) (a9 : Y9) (N : Nat) (base0 : Int) (size3 : Int) (customers4 : List Int) (r1 : List (List Int)) (all14_a : Int) : Nat → Int → (List (List Int)) → (List (Int × Bool)) → Option (Bool)
 | 0, _, _, _ => none
 | n + 1, i18_b, o2100_b, o54_b => cond (decide (i18_b < (customers4.length : Int))) (cond (decide (i18_b < (6 : Int))) (chk (decide (0 ≤ i18_b ∧ i18_b < (customers4.length : Int))) (chk (decide (all14_a ≠ (0 : Int))) (cond ((mget (kt := .int .i64) (vt := .bool) o54_b (Int.tmod (w64 (customers4.getD i18_b.toNat (0 : Int))) all14_a)).getD false) ((l3b a10 a4 a5 a6 a7 a8 a9 N base0 size3 customers4 r1 all14_a n (w64 (i18_b + (1 : Int))) o2100_b o54_b))
   ((a6 r1 (w64 ((2 : Int) + (Int.tmod (w64 (size3)) (3 : Int)))) (Int.tmod (w64 (customers4.getD i18_b.toNat (0 : Int))) all14_a)).bind fun r3 =>
   cond (r3.2 != (0 : Int)) (some false)
   (chk (small (o2100_b.length + 1) 24) ((l3b a10 a4 a5 a6 a7 a8 a9 N base0 size3 customers4 r1 all14_a n (w64 (i18_b + (1 : Int))) (o2100_b ++ ([r3.1] : List (List Int))) (mput (kt := .int .i64) (vt := .bool) o54_b (Int.tmod (w64 (customers4.getD i18_b.toNat (0 : Int))) all14_a) true))))))))
   (cond (decide ((o2100_b.length : Int) < (2 : Int))) ((a7).bind fun r4 =>
   some r4)
   ((a8 (w64 ((2 : Int) + (Int.tmod (w64 (base0)) (3 : Int))), (o2100_b, ()))).bind fun r5 =>
   cond (r5.2 != (0 : Int)) (some false)
   (cond (decide (r5.1 < (2 : Int))) (some false)
   (cond (decide (r5.1 > (w64 ((2 : Int) + (Int.tmod (w64 (size3)) (3 : Int)))))) (some false)
   ((a9 (w64 ((2 : Int) + (Int.tmod (w64 (base0)) (3 : Int))), (o2100_b, ()))).bind fun r6 =>
   (a10 (w64 ((2 : Int) + (Int.tmod (w64 (base0)) (3 : Int))), (o2100_b, ())) (2 : Int)).bind fun r7 =>
   cond ((w64 ((2 : Int) + (Int.tmod (w64 (size3)) (3 : Int)))) == (2 : Int)) (cond (r6.2 != (14 : Int)) (some false)
   (cond (r7.2.2 != (5 : Int)) (some false)
   (cond (r6.2 != (14 : Int)) ((a7).bind fun r8 =>
   some r8)
   (cond (r7.2.2 == (5 : Int)) ((a7).bind fun r9 =>
   some r9)
   (some false)))))
   (cond (r6.2 != (14 : Int)) ((a7).bind fun r10 =>
   some r10)
   (cond (r7.2.2 == (5 : Int)) ((a7).bind fun r11 =>
   some r11)
   (some false)))))))))
   (cond (decide ((o2100_b.length : Int) < (2 : Int))) ((a7).bind fun r12 =>
   some r12)
   ((a8 (w64 ((2 : Int) + (Int.tmod (w64 (base0)) (3 : Int))), (o2100_b, ()))).bind fun r13 =>
   cond (r13.2 != (0 : Int)) (some false)
   (cond (decide (r13.1 < (2 : Int))) (some false)
   (cond (decide (r13.1 > (w64 ((2 : Int) + (Int.tmod (w64 (size3)) (3 : Int)))))) (some false)
   ((a9 (w64 ((2 : Int) + (Int.tmod (w64 (base0)) (3 : Int))), (o2100_b, ()))).bind fun r14 =>
   (a10 (w64 ((2 : Int) + (Int.tmod (w64 (base0)) (3 : Int))), (o2100_b, ())) (2 : Int)).bind fun r15 =>
   cond ((w64 ((2 : Int) + (Int.tmod (w64 (size3)) (3 : Int)))) == (2 : Int)) (cond (r14.2 != (14 : Int)) (some false)
   (cond (r15.2.2 != (5 : Int)) (some false)
   (cond (r14.2 != (14 : Int)) ((a7).bind fun r16 =>
   some r16)
   (cond (r15.2.2 == (5 : Int)) ((a7).bind fun r17 =>
   some r17)
   (some false)))))
   (cond (r14.2 != (14 : Int)) ((a7).bind fun r18 =>
   some r18)
   (cond (r15.2.2 == (5 : Int)) ((a7).bind fun r19 =>
   some r19)
   (some false))))))))
theorem wl3b (a10 : Y10) (a4 : Y4) (a5 : Y5) (a6 : Y6) (a7 : Y7) (a8 : Y8) (a9 : Y9) (N : Nat) (base0 : Int) (size3 : Int) (customers4 : List Int) (r1 : List (List Int)) (all14_a : Int) (m : Nat) (i18_b : Int) (o2100_b : List (List Int)) (o54_b : List (Int × Bool)) : R3_1 a10 a4 a5 a6 a7 a8 a9 N (m + 1) (Sl3b base0 size3 customers4 r1 all14_a i18_b o2100_b o54_b) = cond (decide (i18_b < (customers4.length : Int))) (cond (decide (i18_b < (6 : Int))) (chk (decide (0 ≤ i18_b ∧ i18_b < (customers4.length : Int))) (chk (decide (all14_a ≠ (0 : Int))) (cond ((mget (kt := .int .i64) (vt := .bool) o54_b (Int.tmod (w64 (customers4.getD i18_b.toNat (0 : Int))) all14_a)).getD false) ((R3_1 a10 a4 a5 a6 a7 a8 a9 N m (Sl3b base0 size3 customers4 r1 all14_a (w64 (i18_b + (1 : Int))) o2100_b o54_b)))
   ((a6 r1 (w64 ((2 : Int) + (Int.tmod (w64 (size3)) (3 : Int)))) (Int.tmod (w64 (customers4.getD i18_b.toNat (0 : Int))) all14_a)).bind fun r3 =>
   cond (r3.2 != (0 : Int)) (some false)
   (chk (small (o2100_b.length + 1) 24) ((R3_1 a10 a4 a5 a6 a7 a8 a9 N m (Sl3b base0 size3 customers4 r1 all14_a (w64 (i18_b + (1 : Int))) (o2100_b ++ ([r3.1] : List (List Int))) (mput (kt := .int .i64) (vt := .bool) o54_b (Int.tmod (w64 (customers4.getD i18_b.toNat (0 : Int))) all14_a) true)))))))))
   (cond (decide ((o2100_b.length : Int) < (2 : Int))) ((a7).bind fun r4 =>
   some r4)
   ((a8 (w64 ((2 : Int) + (Int.tmod (w64 (base0)) (3 : Int))), (o2100_b, ()))).bind fun r5 =>
   cond (r5.2 != (0 : Int)) (some false)
   (cond (decide (r5.1 < (2 : Int))) (some false)
   (cond (decide (r5.1 > (w64 ((2 : Int) + (Int.tmod (w64 (size3)) (3 : Int)))))) (some false)
   ((a9 (w64 ((2 : Int) + (Int.tmod (w64 (base0)) (3 : Int))), (o2100_b, ()))).bind fun r6 =>
   (a10 (w64 ((2 : Int) + (Int.tmod (w64 (base0)) (3 : Int))), (o2100_b, ())) (2 : Int)).bind fun r7 =>
   cond ((w64 ((2 : Int) + (Int.tmod (w64 (size3)) (3 : Int)))) == (2 : Int)) (cond (r6.2 != (14 : Int)) (some false)
   (cond (r7.2.2 != (5 : Int)) (some false)
   (cond (r6.2 != (14 : Int)) ((a7).bind fun r8 =>
   some r8)
   (cond (r7.2.2 == (5 : Int)) ((a7).bind fun r9 =>
   some r9)
   (some false)))))
   (cond (r6.2 != (14 : Int)) ((a7).bind fun r10 =>
   some r10)
   (cond (r7.2.2 == (5 : Int)) ((a7).bind fun r11 =>
   some r11)
   (some false)))))))))
   (cond (decide ((o2100_b.length : Int) < (2 : Int))) ((a7).bind fun r12 =>
   some r12)
   ((a8 (w64 ((2 : Int) + (Int.tmod (w64 (base0)) (3 : Int))), (o2100_b, ()))).bind fun r13 =>
   cond (r13.2 != (0 : Int)) (some false)
   (cond (decide (r13.1 < (2 : Int))) (some false)
   (cond (decide (r13.1 > (w64 ((2 : Int) + (Int.tmod (w64 (size3)) (3 : Int)))))) (some false)
   ((a9 (w64 ((2 : Int) + (Int.tmod (w64 (base0)) (3 : Int))), (o2100_b, ()))).bind fun r14 =>
   (a10 (w64 ((2 : Int) + (Int.tmod (w64 (base0)) (3 : Int))), (o2100_b, ())) (2 : Int)).bind fun r15 =>
   cond ((w64 ((2 : Int) + (Int.tmod (w64 (size3)) (3 : Int)))) == (2 : Int)) (cond (r14.2 != (14 : Int)) (some false)
   (cond (r15.2.2 != (5 : Int)) (some false)
   (cond (r14.2 != (14 : Int)) ((a7).bind fun r16 =>
   some r16)
   (cond (r15.2.2 == (5 : Int)) ((a7).bind fun r17 =>
   some r17)
   (some false)))))
   (cond (r14.2 != (14 : Int)) ((a7).bind fun r18 =>
   some r18)
   (cond (r15.2.2 == (5 : Int)) ((a7).bind fun r19 =>
   some r19)
   (some false)))))))) := by kernel_rfl
theorem ql3b (a10 : Y10) (a4 : Y4) (a5 : Y5) (a6 : Y6) (a7 : Y7) (a8 : Y8) (a9 : Y9) (N : Nat) (base0 : Int) (size3 : Int) (customers4 : List Int) (r1 : List (List Int)) (all14_a : Int) : ∀ (m : Nat) (i18_b : Int) (o2100_b : List (List Int)) (o54_b : List (Int × Bool)), R3_1 a10 a4 a5 a6 a7 a8 a9 N m (Sl3b base0 size3 customers4 r1 all14_a i18_b o2100_b o54_b) = l3b a10 a4 a5 a6 a7 a8 a9 N base0 size3 customers4 r1 all14_a m i18_b o2100_b o54_b
        | 0, _, _, _ => rfl
        | m + 1, i18_b, o2100_b, o54_b => by rw [wl3b]; simp only [l3b, ql3b a10 a4 a5 a6 a7 a8 a9 N base0 size3 customers4 r1 all14_a m]
def l3a (a10 : Y10) (a4 : Y4) (a5 : Y5) (a6 : Y6) (a7 : Y7) (a8 : Y8) (a9 : Y9) (N : Nat) (base0 : Int) (size3 : Int) (customers4 : List Int) (r1 : List (List Int)) : Nat → Int → Int → Option (Bool)
 | 0, _, _ => none
 | n + 1, all14_a, i15_a => cond (decide (i15_a < (w64 ((2 : Int) + (Int.tmod (w64 (size3)) (3 : Int)))))) ((l3a a10 a4 a5 a6 a7 a8 a9 N base0 size3 customers4 r1 n (w64 (all14_a * (w64 ((2 : Int) + (Int.tmod (w64 (base0)) (3 : Int)))))) (w64 (i15_a + (1 : Int)))))
   ((l3b a10 a4 a5 a6 a7 a8 a9 N base0 size3 customers4 r1 all14_a N (0 : Int) ([] : List (List Int)) ([] : List (Int × Bool))))
theorem wl3a (a10 : Y10) (a4 : Y4) (a5 : Y5) (a6 : Y6) (a7 : Y7) (a8 : Y8) (a9 : Y9) (N : Nat) (base0 : Int) (size3 : Int) (customers4 : List Int) (r1 : List (List Int)) (m : Nat) (all14_a : Int) (i15_a : Int) : R3_0 a10 a4 a5 a6 a7 a8 a9 N (m + 1) (Sl3a base0 size3 customers4 r1 all14_a i15_a) = cond (decide (i15_a < (w64 ((2 : Int) + (Int.tmod (w64 (size3)) (3 : Int)))))) ((R3_0 a10 a4 a5 a6 a7 a8 a9 N m (Sl3a base0 size3 customers4 r1 (w64 (all14_a * (w64 ((2 : Int) + (Int.tmod (w64 (base0)) (3 : Int)))))) (w64 (i15_a + (1 : Int))))))
   ((R3_1 a10 a4 a5 a6 a7 a8 a9 N N (Sl3b base0 size3 customers4 r1 all14_a (0 : Int) ([] : List (List Int)) ([] : List (Int × Bool))))) := by kernel_rfl
theorem ql3a (a10 : Y10) (a4 : Y4) (a5 : Y5) (a6 : Y6) (a7 : Y7) (a8 : Y8) (a9 : Y9) (N : Nat) (base0 : Int) (size3 : Int) (customers4 : List Int) (r1 : List (List Int)) : ∀ (m : Nat) (all14_a : Int) (i15_a : Int), R3_0 a10 a4 a5 a6 a7 a8 a9 N m (Sl3a base0 size3 customers4 r1 all14_a i15_a) = l3a a10 a4 a5 a6 a7 a8 a9 N base0 size3 customers4 r1 m all14_a i15_a
        | 0, _, _ => rfl
        | m + 1, all14_a, i15_a => by rw [wl3a]; simp only [l3a, ql3b, ql3a a10 a4 a5 a6 a7 a8 a9 N base0 size3 customers4 r1 m]
def m3 (a10 : Y10) (a4 : Y4) (a5 : Y5) (a6 : Y6) (a7 : Y7) (a8 : Y8) (a9 : Y9) (N : Nat) (base0 : Int) (rows1 : List Int) (numbers2 : List Int) (size3 : Int) (customers4 : List Int) : Option (Bool) :=
   (a4 (w64 ((2 : Int) + (Int.tmod (w64 (base0)) (3 : Int)))) rows1 numbers2).bind fun r1 =>
   (a5 r1).bind fun r2 =>
   cond (r2 != (0 : Int)) (some false)
   ((l3a a10 a4 a5 a6 a7 a8 a9 N base0 size3 customers4 r1 N (1 : Int) (1 : Int)))
theorem wm3 (a10 : Y10) (a4 : Y4) (a5 : Y5) (a6 : Y6) (a7 : Y7) (a8 : Y8) (a9 : Y9) (N : Nat) (base0 : Int) (rows1 : List Int) (numbers2 : List Int) (size3 : Int) (customers4 : List Int) : callF (E3 a10 a4 a5 a6 a7 a8 a9) lv3 N en3 c3 (resOf Tryd.f3) 138 [.dv (.int .u8) base0, .dv (.sl (.int .u8)) rows1, .dv (.sl (.int .u8)) numbers2, .dv (.int .u8) size3, .dv (.sl (.int .u8)) customers4] [] dec3 = (a4 (w64 ((2 : Int) + (Int.tmod (w64 (base0)) (3 : Int)))) rows1 numbers2).bind fun r1 =>
   (a5 r1).bind fun r2 =>
   cond (r2 != (0 : Int)) (some false)
   ((R3_0 a10 a4 a5 a6 a7 a8 a9 N N (Sl3a base0 size3 customers4 r1 (1 : Int) (1 : Int)))) := by kernel_rfl
theorem k3 (a10 : Y10) (a4 : Y4) (a5 : Y5) (a6 : Y6) (a7 : Y7) (a8 : Y8) (a9 : Y9) (N : Nat) (base0 : Int) (rows1 : List Int) (numbers2 : List Int) (size3 : Int) (customers4 : List Int) : callF (E3 a10 a4 a5 a6 a7 a8 a9) lv3 N en3 c3 (resOf Tryd.f3) 138 [.dv (.int .u8) base0, .dv (.sl (.int .u8)) rows1, .dv (.sl (.int .u8)) numbers2, .dv (.int .u8) size3, .dv (.sl (.int .u8)) customers4] [] dec3 = m3 a10 a4 a5 a6 a7 a8 a9 N base0 rows1 numbers2 size3 customers4 := by rw [wm3]; simp only [m3, ql3a]
theorem ok3 (a10 : Y10) (a4 : Y4) (a5 : Y5) (a6 : Y6) (a7 : Y7) (a8 : Y8) (a9 : Y9) (h10 : FnOk Tryd.prog 10 (F10 a10)) (h4 : FnOk Tryd.prog 4 (F4 a4)) (h5 : FnOk Tryd.prog 5 (F5 a5)) (h6 : FnOk Tryd.prog 6 (F6 a6)) (h7 : FnOk Tryd.prog 7 (F7 a7)) (h8 : FnOk Tryd.prog 8 (F8 a8)) (h9 : FnOk Tryd.prog 9 (F9 a9)) (a : Y3) (h : ∀ base0 rows1 numbers2 size3 customers4 r, a base0 rows1 numbers2 size3 customers4 = some r → (∃ N, m3 a10 a4 a5 a6 a7 a8 a9 N base0 rows1 numbers2 size3 customers4 = some r)) : FnOk Tryd.prog 3 (F3 a) := by
 intro args Of x hx
 simp only [F3] at hx
 split at hx
 ·rename_i base0 rows1 numbers2 size3 customers4
  obtain ⟨N, hN⟩ := h _ _ _ _ _ _ hx
  refine lifted (L := [(10, F10 a10), (4, F4 a4), (5, F5 a5), (6, F6 a6), (7, F7 a7), (8, F8 a8), (9, F9 a9)]) (rc := (fun i => ([(16, [some (.int .i64), none]), (53, [some (.int .i64), none])] : List (Nat × List (Option DT))).lookup i)) (fz := nfz) (fn := Tryd.f3) (by kernel_rfl) (by kernel_rfl) (by kernel_rfl) (by kernel_rfl) rfl ?_ ((k3 a10 a4 a5 a6 a7 a8 a9 N _ _ _ _ _).trans hN) ?_
  ·intro p hp; simp only [List.mem_cons, List.not_mem_nil, or_false] at hp; rcases hp with rfl | rfl | rfl | rfl | rfl | rfl | rfl
   ·exact h10
   ·exact h4
   ·exact h5
   ·exact h6
   ·exact h7
   ·exact h8
   ·exact h9
  ·intro l o hd
   simp only [dec3] at hd
   split at hd
   ·obtain rfl := Option.some.inj hd; exact ⟨rfl, rfl⟩
   ·cases hd
 ·cases hx
end Go.Proofs.YtoflclmkfajomaaDoor
