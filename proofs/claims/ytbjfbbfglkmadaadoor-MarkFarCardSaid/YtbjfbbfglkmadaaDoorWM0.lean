/-
 The functions that the examples of the chapter reaches, told as plain functions.
-/
import Derived.Test.YtbjfbbfglkmadaaDoorQFI
namespace Go.Proofs.YtbjfbbfglkmadaaDoor
open Go.RowKit
set_option linter.unusedVariables false
abbrev Wm0T0 := LL
abbrev Wm0T1 := TS → Option (List Int)
abbrev Wm0T2 := List (Int × Int)
def E52 : Env := mkE TI TY [] nrc nfz
noncomputable def c52 : Code := bodyOf Tryd.f52
def lv52 : Nat → Option Norm := norms []
def en52 : End := ⟨[], ⟨[8], [], [], []⟩⟩
def dec52 (l : List TV) (o : List (Nat × TO)) : Option (Int) := match l, o with | [.dv (.int .i64) x0], [] => some (x0) | _, _ => none
def m52 (N : Nat) (cx0 : Int × LL × Unit) : Option (Int) :=
   chk (decide (0 ≤ (0 : Int) ∧ (0 : Int) < (cx0.2.1.length : Int))) (some ((cx0.2.1.getD 0 ([] : List Int)).length : Int))
theorem k52 (N : Nat) (cx0 : Int × LL × Unit) : callF (E52) lv52 N en52 c52 (resOf Tryd.f52) 7 [.dv (.pair (.int .i64) (.pair (.sl (.sl (.int .i64))) (.unit))) cx0] [] dec52 = m52 N cx0 := by kernel_rfl
theorem ok52 (a : Y52) (h : ∀ cx0 r, a cx0 = some r → (∃ N, m52 N cx0 = some r)) : FnOk Tryd.prog 52 (F52 a) := by
 intro args Of x hx
 simp only [F52] at hx
 split at hx
 ·rename_i cx0
  obtain ⟨N, hN⟩ := h _ _ hx
  refine lifted (L := []) (rc := nrc) (fz := nfz) (fn := Tryd.f52) (by kernel_rfl) (by kernel_rfl) (by kernel_rfl) (by kernel_rfl) rfl ?_ ((k52 N _).trans hN) ?_
  ·intro p hp; cases hp
  ·intro l o hd
   simp only [dec52] at hd
   split at hd
   ·obtain rfl := oij hd; exact ⟨rfl, rfl⟩
   ·cases hd
 ·cases hx
def E62 : Env := mkE TI TY [] nrc nfz
noncomputable def c62 : Code := bodyOf Tryd.f62
def lv62 : Nat → Option Norm := norms []
def en62 : End := ⟨[], ⟨[15], [], [], []⟩⟩
def dec62 (l : List TV) (o : List (Nat × TO)) : Option (Bool) := match l, o with | [.dv (.bool) x0], [] => some (x0) | _, _ => none
def m62 (N : Nat) (lo0 : Int) (n1 : Int) (hi2 : Int) : Option (Bool) :=
   cond (decide (lo0 ≤ n1)) (some (decide (n1 ≤ hi2)))
   (some false)
theorem k62 (N : Nat) (lo0 : Int) (n1 : Int) (hi2 : Int) : callF (E62) lv62 N en62 c62 (resOf Tryd.f62) 12 [.dv (.int .i64) lo0, .dv (.int .i64) n1, .dv (.int .i64) hi2] [] dec62 = m62 N lo0 n1 hi2 := by kernel_rfl
theorem ok62 (a : Y62) (h : ∀ lo0 n1 hi2 r, a lo0 n1 hi2 = some r → (∃ N, m62 N lo0 n1 hi2 = some r)) : FnOk Tryd.prog 62 (F62 a) := by
 intro args Of x hx
 simp only [F62] at hx
 split at hx
 ·rename_i lo0 n1 hi2
  obtain ⟨N, hN⟩ := h _ _ _ _ hx
  refine lifted (L := []) (rc := nrc) (fz := nfz) (fn := Tryd.f62) (by kernel_rfl) (by kernel_rfl) (by kernel_rfl) (by kernel_rfl) rfl ?_ ((k62 N _ _ _).trans hN) ?_
  ·intro p hp; cases hp
  ·intro l o hd
   simp only [dec62] at hd
   split at hd
   ·obtain rfl := oij hd; exact ⟨rfl, rfl⟩
   ·cases hd
 ·cases hx
def E83c (J : Y62) : Env := mkE TI TY [(62, F62 J)] nrc nfz
noncomputable def c83c : Code := bodyOf Tryd.f83
def lv83c : Nat → Option Norm := norms []
def en83c : End := ⟨[], ⟨[10], [9000], [], []⟩⟩
def dec83c (l : List TV) (o : List (Nat × TO)) : Option (Bool × List Cd) := match l, o with | [.dv (.bool) x0], [(9000, .row (.pair (.int .i64) (.pair (.sl (.sl (.int .i64))) (.unit))) x1)] => some (x0, x1) | _, _ => none
def m83c (J : Y62) (N : Nat) (mx0 : Int) (p1 : List Cd) : Option (Bool × List Cd) :=
   (J (0 : Int) mx0 (w64 (((p1.getD 0 ((0 : Int), (([] : LL), ()))).1) - (1 : Int)))).bind fun r1 =>
   some (!r1, p1)
theorem k83c (J : Y62) (N : Nat) (mx0 : Int) (p1 : List Cd) : callF (E83c J) lv83c N en83c c83c (resOf Tryd.f83) 8 [.dv (.int .i64) mx0, .ptr 9000 0 []] [(9000, .row (.pair (.int .i64) (.pair (.sl (.sl (.int .i64))) (.unit))) p1)] dec83c = m83c J N mx0 p1 := by kernel_rfl
theorem ok83c (J : Y62) (h62 : FnOk Tryd.prog 62 (F62 J)) (a : Y83c) (h : ∀ mx0 p1 r, a mx0 p1 = some r → (∃ N, m83c J N mx0 p1 = some r)) : FnOk Tryd.prog 83 (F83c a) := by
 intro args Of x hx
 simp only [F83c] at hx
 split at hx
 ·rename_i mx0 p1
  obtain ⟨N, hN⟩ := h _ _ _ hx
  refine lifted (L := [(62, F62 J)]) (rc := nrc) (fz := nfz) (fn := Tryd.f83) (by kernel_rfl) (by kernel_rfl) (by kernel_rfl) (by kernel_rfl) rfl ?_ ((k83c J N _ _).trans hN) ?_
  ·intro p hp; simp only [List.mem_cons, List.not_mem_nil, or_false] at hp; rcases hp with rfl; exact h62
  ·intro l o hd
   simp only [dec83c] at hd
   split at hd
   ·obtain rfl := oij hd; exact ⟨rfl, rfl⟩
   ·cases hd
 ·cases hx
def E96c83 (a83c : Y83c) : Env := mkE TI TY [(83, F83c a83c)] nrc nfz
noncomputable def c96c83 : Code := bodyOf Tryd.f96
def nm96c83_0 : Norm := ⟨[0, 1, 7, 8], [9000], [], []⟩
def lv96c83 : Nat → Option Norm := norms [(2, nm96c83_0)]
def en96c83 : End := ⟨[], ⟨[19], [9000], [], []⟩⟩
def dec96c83 (l : List TV) (o : List (Nat × TO)) : Option (Int × List Cd) := match l, o with | [.dv (.int .i64) x0], [(9000, .row (.pair (.int .i64) (.pair (.sl (.sl (.int .i64))) (.unit))) x1)] => some (x0, x1) | _, _ => none
def Sl96c83a (p0 : List Int) (t8_a : Int) (o9000_a : List Cd) : TS := ⟨slots 19 [(0, .dv (.sl (.int .i64)) p0), (1, .fn 83 0 1 fun i => ([.ptr 9000 0 []] : List TV).getD i .any), (7, .dv (.int .i64) (p0.length : Int)), (8, .dv (.int .i64) t8_a)], [(9000, .row (.pair (.int .i64) (.pair (.sl (.sl (.int .i64))) (.unit))) o9000_a)]⟩
noncomputable def K96c83_0 (a83c : Y83c) (N : Nat) : Kont (Int × List Cd) := kont (E96c83 a83c) lv96c83 N c96c83 [1, 0, 1, 0] (fin TI en96c83 (resOf Tryd.f96) dec96c83)
noncomputable def R96c83_0 (a83c : Y83c) (N : Nat) (m : Nat) : TS → Option (Int × List Cd) := loopK (den (E96c83 a83c) lv96c83 N (sub c96c83 [1, 0, 1, 0, 0])) (TS.norm nm96c83_0) (K96c83_0 a83c N) m
def l96c83a (a83c : Y83c) (N : Nat) (p0 : List Int) : Nat → Int → (List Cd) → Option (Int × List Cd)
 | 0, _, _ => none
 | n + 1, t8_a, o9000_a => cond (decide (t8_a < (p0.length : Int))) (chk (decide (0 ≤ t8_a ∧ t8_a < (p0.length : Int))) ((a83c (p0.getD t8_a.toNat 0) o9000_a).bind fun r1 =>
   cond (r1.1) (some (t8_a, r1.2))
   ((l96c83a a83c N p0 n (w64 (t8_a + 1)) r1.2))))
   (some ((-1 : Int), o9000_a))
theorem wl96c83a (a83c : Y83c) (N : Nat) (p0 : List Int) (m : Nat) (t8_a : Int) (o9000_a : List Cd) : R96c83_0 a83c N (m + 1) (Sl96c83a p0 t8_a o9000_a) = cond (decide (t8_a < (p0.length : Int))) (chk (decide (0 ≤ t8_a ∧ t8_a < (p0.length : Int))) ((a83c (p0.getD t8_a.toNat 0) o9000_a).bind fun r1 =>
   cond (r1.1) (some (t8_a, r1.2))
   ((R96c83_0 a83c N m (Sl96c83a p0 (w64 (t8_a + 1)) r1.2)))))
   (some ((-1 : Int), o9000_a)) := by kernel_rfl
theorem ql96c83a (a83c : Y83c) (N : Nat) (p0 : List Int) : ∀ (m : Nat) (t8_a : Int) (o9000_a : List Cd), R96c83_0 a83c N m (Sl96c83a p0 t8_a o9000_a) = l96c83a a83c N p0 m t8_a o9000_a
        | 0, _, _ => rfl
        | m + 1, t8_a, o9000_a => by rw [wl96c83a]; simp only [l96c83a, ql96c83a a83c N p0 m]
def m96c83 (a83c : Y83c) (N : Nat) (p0 : List Int) (p1 : List Cd) : Option (Int × List Cd) :=
   (l96c83a a83c N p0 N (0 : Int) p1)
theorem wm96c83 (a83c : Y83c) (N : Nat) (p0 : List Int) (p1 : List Cd) : callF (E96c83 a83c) lv96c83 N en96c83 c96c83 (resOf Tryd.f96) 17 [.dv (.sl (.int .i64)) p0, .fn 83 0 1 fun i => ([.ptr 9000 0 []] : List TV).getD i .any] [(9000, .row (.pair (.int .i64) (.pair (.sl (.sl (.int .i64))) (.unit))) p1)] dec96c83 = (R96c83_0 a83c N N (Sl96c83a p0 (0 : Int) p1)) := by kernel_rfl
theorem k96c83 (a83c : Y83c) (N : Nat) (p0 : List Int) (p1 : List Cd) : callF (E96c83 a83c) lv96c83 N en96c83 c96c83 (resOf Tryd.f96) 17 [.dv (.sl (.int .i64)) p0, .fn 83 0 1 fun i => ([.ptr 9000 0 []] : List TV).getD i .any] [(9000, .row (.pair (.int .i64) (.pair (.sl (.sl (.int .i64))) (.unit))) p1)] dec96c83 = m96c83 a83c N p0 p1 := by rw [wm96c83]; simp only [m96c83, ql96c83a]
theorem ok96c83 (a83c : Y83c) (h83c : FnOk Tryd.prog 83 (F83c a83c)) (a : Y96c83) (h : ∀ p0 p1 r, a p0 p1 = some r → (∃ N, m96c83 a83c N p0 p1 = some r)) : FnOk Tryd.prog 96 (F96c83 a) := by
 intro args Of x hx
 simp only [F96c83] at hx
 split at hx
 ·rename_i p0 f_0 p1 heqc
  have hc0 := congrArg (fun c : List (List TV) => c.getD 0 []) heqc
  obtain ⟨N, hN⟩ := h _ _ _ hx
  refine HSpec.etaL (args := [.dv (.sl (.int .i64)) p0, .fn 83 0 1 fun i => ([.ptr 9000 0 []] : List TV).getD i .any]) (O := [(9000, .row (.pair (.int .i64) (.pair (.sl (.sl (.int .i64))) (.unit))) p1)]) ⟨TV.sim_refl _, TV.sim_fn hc0, trivial⟩ ⟨rfl, TO.sim_refl _, trivial⟩ (lifted (L := [(83, F83c a83c)]) (rc := nrc) (fz := nfz) (fn := Tryd.f96) (by kernel_rfl) (by kernel_rfl) (by kernel_rfl) (by kernel_rfl) rfl ?_ ((k96c83 a83c N _ _).trans hN) ?_)
  ·intro p hp; simp only [List.mem_cons, List.not_mem_nil, or_false] at hp; rcases hp with rfl; exact h83c
  ·intro l o hd
   simp only [dec96c83] at hd
   split at hd
   ·obtain rfl := oij hd; exact ⟨rfl, rfl⟩
   ·cases hd
 ·cases hx
def E82c83 (a96c83 : Y96c83) : Env := mkE TI TY [(96, F96c83 a96c83)] nrc nfz
noncomputable def c82c83 : Code := bodyOf Tryd.f82
def lv82c83 : Nat → Option Norm := norms []
def en82c83 : End := ⟨[], ⟨[9], [9000], [], []⟩⟩
def dec82c83 (l : List TV) (o : List (Nat × TO)) : Option (Bool × List Cd) := match l, o with | [.dv (.bool) x0], [(9000, .row (.pair (.int .i64) (.pair (.sl (.sl (.int .i64))) (.unit))) x1)] => some (x0, x1) | _, _ => none
def m82c83 (a96c83 : Y96c83) (N : Nat) (s0 : List Int) (p1 : List Cd) : Option (Bool × List Cd) :=
   (a96c83 s0 p1).bind fun r1 =>
   some (decide (r1.1 ≥ (0 : Int)), r1.2)
theorem k82c83 (a96c83 : Y96c83) (N : Nat) (s0 : List Int) (p1 : List Cd) : callF (E82c83 a96c83) lv82c83 N en82c83 c82c83 (resOf Tryd.f82) 7 [.dv (.sl (.int .i64)) s0, .fn 83 0 1 fun i => ([.ptr 9000 0 []] : List TV).getD i .any] [(9000, .row (.pair (.int .i64) (.pair (.sl (.sl (.int .i64))) (.unit))) p1)] dec82c83 = m82c83 a96c83 N s0 p1 := by kernel_rfl
theorem ok82c83 (a96c83 : Y96c83) (h96c83 : FnOk Tryd.prog 96 (F96c83 a96c83)) (a : Y82c83) (h : ∀ s0 p1 r, a s0 p1 = some r → (∃ N, m82c83 a96c83 N s0 p1 = some r)) : FnOk Tryd.prog 82 (F82c83 a) := by
 intro args Of x hx
 simp only [F82c83] at hx
 split at hx
 ·rename_i s0 f_0 p1 heqc
  have hc0 := congrArg (fun c : List (List TV) => c.getD 0 []) heqc
  obtain ⟨N, hN⟩ := h _ _ _ hx
  refine HSpec.etaL (args := [.dv (.sl (.int .i64)) s0, .fn 83 0 1 fun i => ([.ptr 9000 0 []] : List TV).getD i .any]) (O := [(9000, .row (.pair (.int .i64) (.pair (.sl (.sl (.int .i64))) (.unit))) p1)]) ⟨TV.sim_refl _, TV.sim_fn hc0, trivial⟩ ⟨rfl, TO.sim_refl _, trivial⟩ (lifted (L := [(96, F96c83 a96c83)]) (rc := nrc) (fz := nfz) (fn := Tryd.f82) (by kernel_rfl) (by kernel_rfl) (by kernel_rfl) (by kernel_rfl) rfl ?_ ((k82c83 a96c83 N _ _).trans hN) ?_)
  ·intro p hp; simp only [List.mem_cons, List.not_mem_nil, or_false] at hp; rcases hp with rfl; exact h96c83
  ·intro l o hd
   simp only [dec82c83] at hd
   split at hd
   ·obtain rfl := oij hd; exact ⟨rfl, rfl⟩
   ·cases hd
 ·cases hx
def E58 (H : Y52) (a82c83 : Y82c83) : Env := mkE TI TY [(52, F52 H), (82, F82c83 a82c83)] nrc nfz
noncomputable def c58 : Code := bodyOf Tryd.f58
def lv58 : Nat → Option Norm := norms []
def en58 : End := ⟨[], ⟨[15], [], [], []⟩⟩
def dec58 (l : List TV) (o : List (Nat × TO)) : Option (Int) := match l, o with | [.dv (.int .i64) x0], [] => some (x0) | _, _ => none
def m58 (H : Y52) (a82c83 : Y82c83) (N : Nat) (cx0 : Int × LL × Unit) (wx1 : List Int) : Option (Int) :=
   (H cx0).bind fun r1 =>
   cond ((wx1.length : Int) != r1) (some (3 : Int))
   ((a82c83 wx1 ([cx0] : List Cd)).bind fun r2 =>
   cond (r2.1) (some (4 : Int))
   (some (0 : Int)))
theorem k58 (H : Y52) (a82c83 : Y82c83) (N : Nat) (cx0 : Int × LL × Unit) (wx1 : List Int) : callF (E58 H a82c83) lv58 N en58 c58 (resOf Tryd.f58) 13 [.dv (.pair (.int .i64) (.pair (.sl (.sl (.int .i64))) (.unit))) cx0, .dv (.sl (.int .i64)) wx1] [] dec58 = m58 H a82c83 N cx0 wx1 := by kernel_rfl
theorem ok58 (H : Y52) (a82c83 : Y82c83) (h52 : FnOk Tryd.prog 52 (F52 H)) (h82c83 : FnOk Tryd.prog 82 (F82c83 a82c83)) (a : Y58) (h : ∀ cx0 wx1 r, a cx0 wx1 = some r → (∃ N, m58 H a82c83 N cx0 wx1 = some r)) : FnOk Tryd.prog 58 (F58 a) := by
 intro args Of x hx
 simp only [F58] at hx
 split at hx
 ·rename_i cx0 wx1
  obtain ⟨N, hN⟩ := h _ _ _ hx
  refine lifted (L := [(52, F52 H), (82, F82c83 a82c83)]) (rc := nrc) (fz := nfz) (fn := Tryd.f58) (by kernel_rfl) (by kernel_rfl) (by kernel_rfl) (by kernel_rfl) rfl ?_ ((k58 H a82c83 N _ _).trans hN) ?_
  ·intro p hp; simp only [List.mem_cons, List.not_mem_nil, or_false] at hp; rcases hp with rfl | rfl
   ·exact h52
   ·exact h82c83
  ·intro l o hd
   simp only [dec58] at hd
   split at hd
   ·obtain rfl := oij hd; exact ⟨rfl, rfl⟩
   ·cases hd
 ·cases hx
def E64c (H : Y52) : Env := mkE TI TY [(52, F52 H)] nrc nfz
noncomputable def c64c : Code := bodyOf Tryd.f64
def lv64c : Nat → Option Norm := norms []
def en64c : End := ⟨[], ⟨[9], [9000], [], []⟩⟩
def dec64c (l : List TV) (o : List (Nat × TO)) : Option (Bool × List Cd) := match l, o with | [.dv (.bool) x0], [(9000, .row (.pair (.int .i64) (.pair (.sl (.sl (.int .i64))) (.unit))) x1)] => some (x0, x1) | _, _ => none
def m64c (H : Y52) (N : Nat) (wx0 : List Int) (p1 : List Cd) : Option (Bool × List Cd) :=
   (H (p1.getD 0 ((0 : Int), (([] : LL), ())))).bind fun r1 =>
   some ((wx0.length : Int) != r1, p1)
theorem k64c (H : Y52) (N : Nat) (wx0 : List Int) (p1 : List Cd) : callF (E64c H) lv64c N en64c c64c (resOf Tryd.f64) 7 [.dv (.sl (.int .i64)) wx0, .ptr 9000 0 []] [(9000, .row (.pair (.int .i64) (.pair (.sl (.sl (.int .i64))) (.unit))) p1)] dec64c = m64c H N wx0 p1 := by kernel_rfl
theorem ok64c (H : Y52) (h52 : FnOk Tryd.prog 52 (F52 H)) (a : Y64c) (h : ∀ wx0 p1 r, a wx0 p1 = some r → (∃ N, m64c H N wx0 p1 = some r)) : FnOk Tryd.prog 64 (F64c a) := by
 intro args Of x hx
 simp only [F64c] at hx
 split at hx
 ·rename_i wx0 p1
  obtain ⟨N, hN⟩ := h _ _ _ hx
  refine lifted (L := [(52, F52 H)]) (rc := nrc) (fz := nfz) (fn := Tryd.f64) (by kernel_rfl) (by kernel_rfl) (by kernel_rfl) (by kernel_rfl) rfl ?_ ((k64c H N _ _).trans hN) ?_
  ·intro p hp; simp only [List.mem_cons, List.not_mem_nil, or_false] at hp; rcases hp with rfl; exact h52
  ·intro l o hd
   simp only [dec64c] at hd
   split at hd
   ·obtain rfl := oij hd; exact ⟨rfl, rfl⟩
   ·cases hd
 ·cases hx
def E85c64 (a64c : Y64c) : Env := mkE TI TY [(64, F64c a64c)] nrc nfz
noncomputable def c85c64 : Code := bodyOf Tryd.f85
def nm85c64_0 : Norm := ⟨[0, 1, 7, 8], [9000], [], []⟩
def lv85c64 : Nat → Option Norm := norms [(2, nm85c64_0)]
def en85c64 : End := ⟨[], ⟨[19], [9000], [], []⟩⟩
def dec85c64 (l : List TV) (o : List (Nat × TO)) : Option (Int × List Cd) := match l, o with | [.dv (.int .i64) x0], [(9000, .row (.pair (.int .i64) (.pair (.sl (.sl (.int .i64))) (.unit))) x1)] => some (x0, x1) | _, _ => none
def Sl85c64a (s0 : LL) (t8_a : Int) (o9000_a : List Cd) : TS := ⟨slots 19 [(0, .dv (.sl (.sl (.int .i64))) s0), (1, .fn 64 0 1 fun i => ([.ptr 9000 0 []] : List TV).getD i .any), (7, .dv (.int .i64) (s0.length : Int)), (8, .dv (.int .i64) t8_a)], [(9000, .row (.pair (.int .i64) (.pair (.sl (.sl (.int .i64))) (.unit))) o9000_a)]⟩
noncomputable def K85c64_0 (a64c : Y64c) (N : Nat) : Kont (Int × List Cd) := kont (E85c64 a64c) lv85c64 N c85c64 [1, 0, 1, 0] (fin TI en85c64 (resOf Tryd.f85) dec85c64)
noncomputable def R85c64_0 (a64c : Y64c) (N : Nat) (m : Nat) : TS → Option (Int × List Cd) := loopK (den (E85c64 a64c) lv85c64 N (sub c85c64 [1, 0, 1, 0, 0])) (TS.norm nm85c64_0) (K85c64_0 a64c N) m
def l85c64a (a64c : Y64c) (N : Nat) (s0 : LL) : Nat → Int → (List Cd) → Option (Int × List Cd)
 | 0, _, _ => none
 | n + 1, t8_a, o9000_a => cond (decide (t8_a < (s0.length : Int))) (chk (decide (0 ≤ t8_a ∧ t8_a < (s0.length : Int))) ((a64c (s0.getD t8_a.toNat ([] : List Int)) o9000_a).bind fun r1 =>
   cond (r1.1) (some (t8_a, r1.2))
   ((l85c64a a64c N s0 n (w64 (t8_a + 1)) r1.2))))
   (some ((-1 : Int), o9000_a))
theorem wl85c64a (a64c : Y64c) (N : Nat) (s0 : LL) (m : Nat) (t8_a : Int) (o9000_a : List Cd) : R85c64_0 a64c N (m + 1) (Sl85c64a s0 t8_a o9000_a) = cond (decide (t8_a < (s0.length : Int))) (chk (decide (0 ≤ t8_a ∧ t8_a < (s0.length : Int))) ((a64c (s0.getD t8_a.toNat ([] : List Int)) o9000_a).bind fun r1 =>
   cond (r1.1) (some (t8_a, r1.2))
   ((R85c64_0 a64c N m (Sl85c64a s0 (w64 (t8_a + 1)) r1.2)))))
   (some ((-1 : Int), o9000_a)) := by kernel_rfl
theorem ql85c64a (a64c : Y64c) (N : Nat) (s0 : LL) : ∀ (m : Nat) (t8_a : Int) (o9000_a : List Cd), R85c64_0 a64c N m (Sl85c64a s0 t8_a o9000_a) = l85c64a a64c N s0 m t8_a o9000_a
        | 0, _, _ => rfl
        | m + 1, t8_a, o9000_a => by rw [wl85c64a]; simp only [l85c64a, ql85c64a a64c N s0 m]
def m85c64 (a64c : Y64c) (N : Nat) (s0 : LL) (p1 : List Cd) : Option (Int × List Cd) :=
   (l85c64a a64c N s0 N (0 : Int) p1)
theorem wm85c64 (a64c : Y64c) (N : Nat) (s0 : LL) (p1 : List Cd) : callF (E85c64 a64c) lv85c64 N en85c64 c85c64 (resOf Tryd.f85) 17 [.dv (.sl (.sl (.int .i64))) s0, .fn 64 0 1 fun i => ([.ptr 9000 0 []] : List TV).getD i .any] [(9000, .row (.pair (.int .i64) (.pair (.sl (.sl (.int .i64))) (.unit))) p1)] dec85c64 = (R85c64_0 a64c N N (Sl85c64a s0 (0 : Int) p1)) := by kernel_rfl
theorem k85c64 (a64c : Y64c) (N : Nat) (s0 : LL) (p1 : List Cd) : callF (E85c64 a64c) lv85c64 N en85c64 c85c64 (resOf Tryd.f85) 17 [.dv (.sl (.sl (.int .i64))) s0, .fn 64 0 1 fun i => ([.ptr 9000 0 []] : List TV).getD i .any] [(9000, .row (.pair (.int .i64) (.pair (.sl (.sl (.int .i64))) (.unit))) p1)] dec85c64 = m85c64 a64c N s0 p1 := by rw [wm85c64]; simp only [m85c64, ql85c64a]
theorem ok85c64 (a64c : Y64c) (h64c : FnOk Tryd.prog 64 (F64c a64c)) (a : Y85c64) (h : ∀ s0 p1 r, a s0 p1 = some r → (∃ N, m85c64 a64c N s0 p1 = some r)) : FnOk Tryd.prog 85 (F85c64 a) := by
 intro args Of x hx
 simp only [F85c64] at hx
 split at hx
 ·rename_i s0 f_0 p1 heqc
  have hc0 := congrArg (fun c : List (List TV) => c.getD 0 []) heqc
  obtain ⟨N, hN⟩ := h _ _ _ hx
  refine HSpec.etaL (args := [.dv (.sl (.sl (.int .i64))) s0, .fn 64 0 1 fun i => ([.ptr 9000 0 []] : List TV).getD i .any]) (O := [(9000, .row (.pair (.int .i64) (.pair (.sl (.sl (.int .i64))) (.unit))) p1)]) ⟨TV.sim_refl _, TV.sim_fn hc0, trivial⟩ ⟨rfl, TO.sim_refl _, trivial⟩ (lifted (L := [(64, F64c a64c)]) (rc := nrc) (fz := nfz) (fn := Tryd.f85) (by kernel_rfl) (by kernel_rfl) (by kernel_rfl) (by kernel_rfl) rfl ?_ ((k85c64 a64c N _ _).trans hN) ?_)
  ·intro p hp; simp only [List.mem_cons, List.not_mem_nil, or_false] at hp; rcases hp with rfl; exact h64c
  ·intro l o hd
   simp only [dec85c64] at hd
   split at hd
   ·obtain rfl := oij hd; exact ⟨rfl, rfl⟩
   ·cases hd
 ·cases hx
def E63c64 (a85c64 : Y85c64) : Env := mkE TI TY [(85, F85c64 a85c64)] nrc nfz
noncomputable def c63c64 : Code := bodyOf Tryd.f63
def lv63c64 : Nat → Option Norm := norms []
def en63c64 : End := ⟨[], ⟨[9], [9000], [], []⟩⟩
def dec63c64 (l : List TV) (o : List (Nat × TO)) : Option (Bool × List Cd) := match l, o with | [.dv (.bool) x0], [(9000, .row (.pair (.int .i64) (.pair (.sl (.sl (.int .i64))) (.unit))) x1)] => some (x0, x1) | _, _ => none
def m63c64 (a85c64 : Y85c64) (N : Nat) (s0 : LL) (p1 : List Cd) : Option (Bool × List Cd) :=
   (a85c64 s0 p1).bind fun r1 =>
   some (decide (r1.1 ≥ (0 : Int)), r1.2)
theorem k63c64 (a85c64 : Y85c64) (N : Nat) (s0 : LL) (p1 : List Cd) : callF (E63c64 a85c64) lv63c64 N en63c64 c63c64 (resOf Tryd.f63) 7 [.dv (.sl (.sl (.int .i64))) s0, .fn 64 0 1 fun i => ([.ptr 9000 0 []] : List TV).getD i .any] [(9000, .row (.pair (.int .i64) (.pair (.sl (.sl (.int .i64))) (.unit))) p1)] dec63c64 = m63c64 a85c64 N s0 p1 := by kernel_rfl
theorem ok63c64 (a85c64 : Y85c64) (h85c64 : FnOk Tryd.prog 85 (F85c64 a85c64)) (a : Y63c64) (h : ∀ s0 p1 r, a s0 p1 = some r → (∃ N, m63c64 a85c64 N s0 p1 = some r)) : FnOk Tryd.prog 63 (F63c64 a) := by
 intro args Of x hx
 simp only [F63c64] at hx
 split at hx
 ·rename_i s0 f_0 p1 heqc
  have hc0 := congrArg (fun c : List (List TV) => c.getD 0 []) heqc
  obtain ⟨N, hN⟩ := h _ _ _ hx
  refine HSpec.etaL (args := [.dv (.sl (.sl (.int .i64))) s0, .fn 64 0 1 fun i => ([.ptr 9000 0 []] : List TV).getD i .any]) (O := [(9000, .row (.pair (.int .i64) (.pair (.sl (.sl (.int .i64))) (.unit))) p1)]) ⟨TV.sim_refl _, TV.sim_fn hc0, trivial⟩ ⟨rfl, TO.sim_refl _, trivial⟩ (lifted (L := [(85, F85c64 a85c64)]) (rc := nrc) (fz := nfz) (fn := Tryd.f63) (by kernel_rfl) (by kernel_rfl) (by kernel_rfl) (by kernel_rfl) rfl ?_ ((k63c64 a85c64 N _ _).trans hN) ?_)
  ·intro p hp; simp only [List.mem_cons, List.not_mem_nil, or_false] at hp; rcases hp with rfl; exact h85c64
  ·intro l o hd
   simp only [dec63c64] at hd
   split at hd
   ·obtain rfl := oij hd; exact ⟨rfl, rfl⟩
   ·cases hd
 ·cases hx
def E22 (H : Y52) (a58 : Y58) (J : Y62) (a63c64 : Y63c64) : Env := mkE TI TY [(52, F52 H), (58, F58 a58), (62, F62 J), (63, F63c64 a63c64)] nrc nfz
noncomputable def c22 : Code := bodyOf Tryd.f22
def nm22_0 : Norm := ⟨[1, 33, 34, 35], [1], [], []⟩
def lv22 : Nat → Option Norm := norms [(10, nm22_0)]
def en22 : End := ⟨[], ⟨[46], [], [], []⟩⟩
def dec22 (l : List TV) (o : List (Nat × TO)) : Option (Int) := match l, o with | [.dv (.int .i64) x0], [] => some (x0) | _, _ => none
def Sl22a (r4 : Bool × List Cd) (t35_a : Int) : TS := ⟨slots 46 [(1, .ptr 1 0 []), (33, .dv (.sl (.sl (.int .i64))) (((r4.2.getD 0 ((0 : Int), (([] : LL), ()))).2).1)), (34, .dv (.int .i64) ((((r4.2.getD 0 ((0 : Int), (([] : LL), ()))).2).1).length : Int)), (35, .dv (.int .i64) t35_a)], [(1, .row (.pair (.int .i64) (.pair (.sl (.sl (.int .i64))) (.unit))) r4.2)]⟩
noncomputable def K22_0 (H : Y52) (a58 : Y58) (J : Y62) (a63c64 : Y63c64) (N : Nat) : Kont (Int) := kont (E22 H a58 J a63c64) lv22 N c22 [1, 1, 0, 1, 0] (fin TI en22 (resOf Tryd.f22) dec22)
noncomputable def R22_0 (H : Y52) (a58 : Y58) (J : Y62) (a63c64 : Y63c64) (N : Nat) (m : Nat) : TS → Option (Int) := loopK (den (E22 H a58 J a63c64) lv22 N (sub c22 [1, 1, 0, 1, 0, 0])) (TS.norm nm22_0) (K22_0 H a58 J a63c64 N) m
def l22a (H : Y52) (a58 : Y58) (J : Y62) (a63c64 : Y63c64) (N : Nat) (r4 : Bool × List Cd) : Nat → Int → Option (Int)
 | 0, _ => none
 | n + 1, t35_a => cond (decide (t35_a < ((((r4.2.getD 0 ((0 : Int), (([] : LL), ()))).2).1).length : Int))) (chk (decide (0 ≤ t35_a ∧ t35_a < ((((r4.2.getD 0 ((0 : Int), (([] : LL), ()))).2).1).length : Int))) ((a58 (r4.2.getD 0 ((0 : Int), (([] : LL), ()))) ((((r4.2.getD 0 ((0 : Int), (([] : LL), ()))).2).1).getD t35_a.toNat ([] : List Int))).bind fun r5 =>
   cond (r5 != (0 : Int)) (some r5)
   ((l22a H a58 J a63c64 N r4 n (w64 (t35_a + 1))))))
   (some (0 : Int))
theorem wl22a (H : Y52) (a58 : Y58) (J : Y62) (a63c64 : Y63c64) (N : Nat) (r4 : Bool × List Cd) (m : Nat) (t35_a : Int) : R22_0 H a58 J a63c64 N (m + 1) (Sl22a r4 t35_a) = cond (decide (t35_a < ((((r4.2.getD 0 ((0 : Int), (([] : LL), ()))).2).1).length : Int))) (chk (decide (0 ≤ t35_a ∧ t35_a < ((((r4.2.getD 0 ((0 : Int), (([] : LL), ()))).2).1).length : Int))) ((a58 (r4.2.getD 0 ((0 : Int), (([] : LL), ()))) ((((r4.2.getD 0 ((0 : Int), (([] : LL), ()))).2).1).getD t35_a.toNat ([] : List Int))).bind fun r5 =>
   cond (r5 != (0 : Int)) (some r5)
   ((R22_0 H a58 J a63c64 N m (Sl22a r4 (w64 (t35_a + 1)))))))
   (some (0 : Int)) := by kernel_rfl
theorem ql22a (H : Y52) (a58 : Y58) (J : Y62) (a63c64 : Y63c64) (N : Nat) (r4 : Bool × List Cd) : ∀ (m : Nat) (t35_a : Int), R22_0 H a58 J a63c64 N m (Sl22a r4 t35_a) = l22a H a58 J a63c64 N r4 m t35_a
        | 0, _ => rfl
        | m + 1, t35_a => by rw [wl22a]; simp only [l22a, ql22a H a58 J a63c64 N r4 m]
def m22 (H : Y52) (a58 : Y58) (J : Y62) (a63c64 : Y63c64) (N : Nat) (cx0 : Int × LL × Unit) : Option (Int) :=
   (J (2 : Int) cx0.1 (4 : Int)).bind fun r1 =>
   cond (!r1) (some (4 : Int))
   (cond ((cx0.2.1.length : Int) == (0 : Int)) (some (1 : Int))
   (cond (decide ((cx0.2.1.length : Int) > (10 : Int))) (some (2 : Int))
   ((H cx0).bind fun r2 =>
   (J (1 : Int) r2 (8 : Int)).bind fun r3 =>
   cond (!r3) (some (3 : Int))
   ((a63c64 cx0.2.1 ([cx0] : List Cd)).bind fun r4 =>
   cond (r4.1) (some (3 : Int))
   ((l22a H a58 J a63c64 N r4 N (0 : Int)))))))
theorem wm22 (H : Y52) (a58 : Y58) (J : Y62) (a63c64 : Y63c64) (N : Nat) (cx0 : Int × LL × Unit) : callF (E22 H a58 J a63c64) lv22 N en22 c22 (resOf Tryd.f22) 45 [.dv (.pair (.int .i64) (.pair (.sl (.sl (.int .i64))) (.unit))) cx0] [] dec22 = (J (2 : Int) cx0.1 (4 : Int)).bind fun r1 =>
   cond (!r1) (some (4 : Int))
   (cond ((cx0.2.1.length : Int) == (0 : Int)) (some (1 : Int))
   (cond (decide ((cx0.2.1.length : Int) > (10 : Int))) (some (2 : Int))
   ((H cx0).bind fun r2 =>
   (J (1 : Int) r2 (8 : Int)).bind fun r3 =>
   cond (!r3) (some (3 : Int))
   ((a63c64 cx0.2.1 ([cx0] : List Cd)).bind fun r4 =>
   cond (r4.1) (some (3 : Int))
   ((R22_0 H a58 J a63c64 N N (Sl22a r4 (0 : Int)))))))) := by kernel_rfl
theorem k22 (H : Y52) (a58 : Y58) (J : Y62) (a63c64 : Y63c64) (N : Nat) (cx0 : Int × LL × Unit) : callF (E22 H a58 J a63c64) lv22 N en22 c22 (resOf Tryd.f22) 45 [.dv (.pair (.int .i64) (.pair (.sl (.sl (.int .i64))) (.unit))) cx0] [] dec22 = m22 H a58 J a63c64 N cx0 := by rw [wm22]; simp only [m22, ql22a]
theorem ok22 (H : Y52) (a58 : Y58) (J : Y62) (a63c64 : Y63c64) (h52 : FnOk Tryd.prog 52 (F52 H)) (h58 : FnOk Tryd.prog 58 (F58 a58)) (h62 : FnOk Tryd.prog 62 (F62 J)) (h63c64 : FnOk Tryd.prog 63 (F63c64 a63c64)) (a : Y22) (h : ∀ cx0 r, a cx0 = some r → (∃ N, m22 H a58 J a63c64 N cx0 = some r)) : FnOk Tryd.prog 22 (F22 a) := by
 intro args Of x hx
 simp only [F22] at hx
 split at hx
 ·rename_i cx0
  obtain ⟨N, hN⟩ := h _ _ hx
  refine lifted (L := [(52, F52 H), (58, F58 a58), (62, F62 J), (63, F63c64 a63c64)]) (rc := nrc) (fz := nfz) (fn := Tryd.f22) (by kernel_rfl) (by kernel_rfl) (by kernel_rfl) (by kernel_rfl) rfl ?_ ((k22 H a58 J a63c64 N _).trans hN) ?_
  ·intro p hp; simp only [List.mem_cons, List.not_mem_nil, or_false] at hp; rcases hp with rfl | rfl | rfl | rfl
   ·exact h52
   ·exact h58
   ·exact h62
   ·exact h63c64
  ·intro l o hd
   simp only [dec22] at hd
   split at hd
   ·obtain rfl := oij hd; exact ⟨rfl, rfl⟩
   ·cases hd
 ·cases hx
def E53 : Env := mkE TI TY [] nrc nfz
noncomputable def c53 : Code := bodyOf Tryd.f53
def nm53_0 : Norm := ⟨[1, 5, 8, 9, 10], [], [], []⟩
def lv53 : Nat → Option Norm := norms [(3, nm53_0)]
def en53 : End := ⟨[], ⟨[25], [], [], []⟩⟩
def dec53 (l : List TV) (o : List (Nat × TO)) : Option (Int) := match l, o with | [.dv (.int .i64) x0], [] => some (x0) | _, _ => none
def Sl53a (ax0 : List Int) (b1 : List Int) (n5_a : Int) (t10_a : Int) : TS := ⟨slots 25 [(1, .dv (.sl (.int .i64)) b1), (5, .dv (.int .i64) n5_a), (8, .dv (.sl (.int .i64)) ax0), (9, .dv (.int .i64) (ax0.length : Int)), (10, .dv (.int .i64) t10_a)], []⟩
noncomputable def K53_0 (N : Nat) : Kont (Int) := kont (E53) lv53 N c53 [1, 1, 0, 1, 0] (fin TI en53 (resOf Tryd.f53) dec53)
noncomputable def R53_0 (N : Nat) (m : Nat) : TS → Option (Int) := loopK (den (E53) lv53 N (sub c53 [1, 1, 0, 1, 0, 0])) (TS.norm nm53_0) (K53_0 N) m
def l53a (N : Nat) (ax0 : List Int) (b1 : List Int) : Nat → Int → Int → Option (Int)
 | 0, _, _ => none
 | n + 1, n5_a, t10_a => cond (decide (t10_a < (ax0.length : Int))) (chk (decide (0 ≤ t10_a ∧ t10_a < (ax0.length : Int))) (chk (decide (0 ≤ t10_a ∧ t10_a < (b1.length : Int))) (cond ((b1.getD t10_a.toNat 0) != (ax0.getD t10_a.toNat 0)) ((l53a N ax0 b1 n (w64 (n5_a + 1)) (w64 (t10_a + 1))))
   ((l53a N ax0 b1 n n5_a (w64 (t10_a + 1)))))))
   (some n5_a)
theorem wl53a (N : Nat) (ax0 : List Int) (b1 : List Int) (m : Nat) (n5_a : Int) (t10_a : Int) : R53_0 N (m + 1) (Sl53a ax0 b1 n5_a t10_a) = cond (decide (t10_a < (ax0.length : Int))) (chk (decide (0 ≤ t10_a ∧ t10_a < (ax0.length : Int))) (chk (decide (0 ≤ t10_a ∧ t10_a < (b1.length : Int))) (cond ((b1.getD t10_a.toNat 0) != (ax0.getD t10_a.toNat 0)) ((R53_0 N m (Sl53a ax0 b1 (w64 (n5_a + 1)) (w64 (t10_a + 1)))))
   ((R53_0 N m (Sl53a ax0 b1 n5_a (w64 (t10_a + 1))))))))
   (some n5_a) := by kernel_rfl
theorem ql53a (N : Nat) (ax0 : List Int) (b1 : List Int) : ∀ (m : Nat) (n5_a : Int) (t10_a : Int), R53_0 N m (Sl53a ax0 b1 n5_a t10_a) = l53a N ax0 b1 m n5_a t10_a
        | 0, _, _ => rfl
        | m + 1, n5_a, t10_a => by rw [wl53a]; simp only [l53a, ql53a N ax0 b1 m]
def m53 (N : Nat) (ax0 : List Int) (b1 : List Int) : Option (Int) :=
   (l53a N ax0 b1 N (0 : Int) (0 : Int))
theorem wm53 (N : Nat) (ax0 : List Int) (b1 : List Int) : callF (E53) lv53 N en53 c53 (resOf Tryd.f53) 23 [.dv (.sl (.int .i64)) ax0, .dv (.sl (.int .i64)) b1] [] dec53 = (R53_0 N N (Sl53a ax0 b1 (0 : Int) (0 : Int))) := by kernel_rfl
theorem k53 (N : Nat) (ax0 : List Int) (b1 : List Int) : callF (E53) lv53 N en53 c53 (resOf Tryd.f53) 23 [.dv (.sl (.int .i64)) ax0, .dv (.sl (.int .i64)) b1] [] dec53 = m53 N ax0 b1 := by rw [wm53]; simp only [m53, ql53a]
theorem ok53 (a : Y53) (h : ∀ ax0 b1 r, a ax0 b1 = some r → (∃ N, m53 N ax0 b1 = some r)) : FnOk Tryd.prog 53 (F53 a) := by
 intro args Of x hx
 simp only [F53] at hx
 split at hx
 ·rename_i ax0 b1
  obtain ⟨N, hN⟩ := h _ _ _ hx
  refine lifted (L := []) (rc := nrc) (fz := nfz) (fn := Tryd.f53) (by kernel_rfl) (by kernel_rfl) (by kernel_rfl) (by kernel_rfl) rfl ?_ ((k53 N _ _).trans hN) ?_
  ·intro p hp; cases hp
  ·intro l o hd
   simp only [dec53] at hd
   split at hd
   ·obtain rfl := oij hd; exact ⟨rfl, rfl⟩
   ·cases hd
 ·cases hx
def E16 (B : Y22) (H : Y52) (Q : Y53) : Env := mkE TI TY [(22, F22 B), (52, F52 H), (53, F53 Q)] nrc nfz
noncomputable def c16 : Code := bodyOf Tryd.f16
def nm16_0 : Norm := ⟨[1, 5, 24, 25, 26], [1], [], []⟩
def nm16_1 : Norm := ⟨[1, 5, 7, 24, 25, 26, 34, 35, 36], [1], [], []⟩
def lv16 : Nat → Option Norm := norms [(8, nm16_0), (11, nm16_1)]
def en16 : End := ⟨[], ⟨[48, 49], [], [], []⟩⟩
def dec16 (l : List TV) (o : List (Nat × TO)) : Option (Int × Int) := match l, o with | [.dv (.int .i64) x0, .dv (.int .i64) x1], [] => some (x0, x1) | _, _ => none
def Sl16b (cx0 : Int × LL × Unit) (t26_a : Int) (n5_b : Int) (t36_b : Int) : TS := ⟨slots 48 [(1, .ptr 1 0 []), (5, .dv (.int .i64) n5_b), (7, .dv (.sl (.int .i64)) (cx0.2.1.getD t26_a.toNat ([] : List Int))), (24, .dv (.sl (.sl (.int .i64))) cx0.2.1), (25, .dv (.int .i64) (cx0.2.1.length : Int)), (26, .dv (.int .i64) t26_a), (34, .dv (.sl (.sl (.int .i64))) (cx0.2.1.take t26_a.toNat)), (35, .dv (.int .i64) ((cx0.2.1.take t26_a.toNat).length : Int)), (36, .dv (.int .i64) t36_b)], [(1, .row (.pair (.int .i64) (.pair (.sl (.sl (.int .i64))) (.unit))) ([cx0] : List Cd))]⟩
def Sl16a (cx0 : Int × LL × Unit) (n5_a : Int) (t26_a : Int) : TS := ⟨slots 48 [(1, .ptr 1 0 []), (5, .dv (.int .i64) n5_a), (24, .dv (.sl (.sl (.int .i64))) cx0.2.1), (25, .dv (.int .i64) (cx0.2.1.length : Int)), (26, .dv (.int .i64) t26_a)], [(1, .row (.pair (.int .i64) (.pair (.sl (.sl (.int .i64))) (.unit))) ([cx0] : List Cd))]⟩
noncomputable def K16_0 (B : Y22) (H : Y52) (Q : Y53) (N : Nat) : Kont (Int × Int) := kont (E16 B H Q) lv16 N c16 [1, 1, 1, 1, 0, 1, 0] (fin TI en16 (resOf Tryd.f16) dec16)
noncomputable def R16_0 (B : Y22) (H : Y52) (Q : Y53) (N : Nat) (m : Nat) : TS → Option (Int × Int) := loopK (den (E16 B H Q) lv16 N (sub c16 [1, 1, 1, 1, 0, 1, 0, 0])) (TS.norm nm16_0) (K16_0 B H Q N) m
noncomputable def K16_1 (B : Y22) (H : Y52) (Q : Y53) (N : Nat) (T16_0 : TS → Option (Int × Int)) : Kont (Int × Int) := kont (E16 B H Q) lv16 N (sub c16 [1, 1, 1, 1, 0, 1, 0, 0]) [1, 1, 0, 0, 1, 1, 0] (kloop (TS.norm nm16_0) (K16_0 B H Q N) T16_0)
noncomputable def R16_1 (B : Y22) (H : Y52) (Q : Y53) (N : Nat) (T16_0 : TS → Option (Int × Int)) (m : Nat) : TS → Option (Int × Int) := loopK (den (E16 B H Q) lv16 N (sub c16 [1, 1, 1, 1, 0, 1, 0, 0, 1, 1, 0, 0, 1, 1, 0, 0])) (TS.norm nm16_1) (K16_1 B H Q N T16_0) m
def l16b (B : Y22) (H : Y52) (Q : Y53) (N : Nat) (cx0 : Int × LL × Unit) (t26_a : Int) (l16a' : Int → Int → Option (Int × Int)) : Nat → Int → Int → Option (Int × Int)
 | 0, _, _ => none
 | n + 1, n5_b, t36_b => cond (decide (t36_b < ((cx0.2.1.take t26_a.toNat).length : Int))) (chk (decide (0 ≤ t36_b ∧ t36_b < ((cx0.2.1.take t26_a.toNat).length : Int))) ((Q (cx0.2.1.getD t26_a.toNat ([] : List Int)) ((cx0.2.1.take t26_a.toNat).getD t36_b.toNat ([] : List Int))).bind fun r3 =>
   (l16b B H Q N cx0 t26_a l16a' n (imin n5_b r3) (w64 (t36_b + 1)))))
   ((l16a' n5_b (w64 (t26_a + 1))))
theorem wl16b (B : Y22) (H : Y52) (Q : Y53) (N : Nat) (cx0 : Int × LL × Unit) (t26_a : Int) (T16_0 : TS → Option (Int × Int)) (m : Nat) (n5_b : Int) (t36_b : Int) : R16_1 B H Q N T16_0 (m + 1) (Sl16b cx0 t26_a n5_b t36_b) = cond (decide (t36_b < ((cx0.2.1.take t26_a.toNat).length : Int))) (chk (decide (0 ≤ t36_b ∧ t36_b < ((cx0.2.1.take t26_a.toNat).length : Int))) ((Q (cx0.2.1.getD t26_a.toNat ([] : List Int)) ((cx0.2.1.take t26_a.toNat).getD t36_b.toNat ([] : List Int))).bind fun r3 =>
   (R16_1 B H Q N T16_0 m (Sl16b cx0 t26_a (imin n5_b r3) (w64 (t36_b + 1))))))
   ((T16_0 (Sl16a cx0 n5_b (w64 (t26_a + 1))))) := by kernel_rfl
theorem ql16b (B : Y22) (H : Y52) (Q : Y53) (N : Nat) (cx0 : Int × LL × Unit) (t26_a : Int) (T16_0 : TS → Option (Int × Int)) : ∀ (m : Nat) (n5_b : Int) (t36_b : Int), R16_1 B H Q N T16_0 m (Sl16b cx0 t26_a n5_b t36_b) = l16b B H Q N cx0 t26_a (fun y0 y1 => T16_0 (Sl16a cx0 y0 y1)) m n5_b t36_b
        | 0, _, _ => rfl
        | m + 1, n5_b, t36_b => by rw [wl16b]; simp only [l16b, ql16b B H Q N cx0 t26_a T16_0 m]
def l16a (B : Y22) (H : Y52) (Q : Y53) (N : Nat) (cx0 : Int × LL × Unit) : Nat → Int → Int → Option (Int × Int)
 | 0, _, _ => none
 | n + 1, n5_a, t26_a => cond (decide (t26_a < (cx0.2.1.length : Int))) (chk (decide (0 ≤ t26_a ∧ t26_a < (cx0.2.1.length : Int))) (chk (decide (0 ≤ t26_a ∧ t26_a ≤ (cx0.2.1.length : Int))) ((l16b B H Q N cx0 t26_a (fun y0 y1 => (l16a B H Q N cx0 n y0 y1)) N n5_a (0 : Int)))))
   (some (n5_a, (0 : Int)))
theorem wl16a (B : Y22) (H : Y52) (Q : Y53) (N : Nat) (cx0 : Int × LL × Unit) (m : Nat) (n5_a : Int) (t26_a : Int) : R16_0 B H Q N (m + 1) (Sl16a cx0 n5_a t26_a) = cond (decide (t26_a < (cx0.2.1.length : Int))) (chk (decide (0 ≤ t26_a ∧ t26_a < (cx0.2.1.length : Int))) (chk (decide (0 ≤ t26_a ∧ t26_a ≤ (cx0.2.1.length : Int))) ((R16_1 B H Q N (R16_0 B H Q N m) N (Sl16b cx0 t26_a n5_a (0 : Int))))))
   (some (n5_a, (0 : Int))) := by kernel_rfl
theorem ql16a (B : Y22) (H : Y52) (Q : Y53) (N : Nat) (cx0 : Int × LL × Unit) : ∀ (m : Nat) (n5_a : Int) (t26_a : Int), R16_0 B H Q N m (Sl16a cx0 n5_a t26_a) = l16a B H Q N cx0 m n5_a t26_a
        | 0, _, _ => rfl
        | m + 1, n5_a, t26_a => by rw [wl16a]; simp only [l16a, ql16b, ql16a B H Q N cx0 m]
def m16 (B : Y22) (H : Y52) (Q : Y53) (N : Nat) (cx0 : Int × LL × Unit) : Option (Int × Int) :=
   (B cx0).bind fun r1 =>
   cond (r1 != (0 : Int)) (some ((0 : Int), r1))
   (cond ((cx0.2.1.length : Int) == (1 : Int)) (some ((0 : Int), (14 : Int)))
   ((H cx0).bind fun r2 =>
   (l16a B H Q N cx0 N r2 (0 : Int))))
theorem wm16 (B : Y22) (H : Y52) (Q : Y53) (N : Nat) (cx0 : Int × LL × Unit) : callF (E16 B H Q) lv16 N en16 c16 (resOf Tryd.f16) 47 [.dv (.pair (.int .i64) (.pair (.sl (.sl (.int .i64))) (.unit))) cx0] [] dec16 = (B cx0).bind fun r1 =>
   cond (r1 != (0 : Int)) (some ((0 : Int), r1))
   (cond ((cx0.2.1.length : Int) == (1 : Int)) (some ((0 : Int), (14 : Int)))
   ((H cx0).bind fun r2 =>
   (R16_0 B H Q N N (Sl16a cx0 r2 (0 : Int))))) := by kernel_rfl
theorem k16 (B : Y22) (H : Y52) (Q : Y53) (N : Nat) (cx0 : Int × LL × Unit) : callF (E16 B H Q) lv16 N en16 c16 (resOf Tryd.f16) 47 [.dv (.pair (.int .i64) (.pair (.sl (.sl (.int .i64))) (.unit))) cx0] [] dec16 = m16 B H Q N cx0 := by rw [wm16]; simp only [m16, ql16a]
theorem ok16 (B : Y22) (H : Y52) (Q : Y53) (h22 : FnOk Tryd.prog 22 (F22 B)) (h52 : FnOk Tryd.prog 52 (F52 H)) (h53 : FnOk Tryd.prog 53 (F53 Q)) (a : Y16) (h : ∀ cx0 r, a cx0 = some r → (∃ N, m16 B H Q N cx0 = some r)) : FnOk Tryd.prog 16 (F16 a) := by
 intro args Of x hx
 simp only [F16] at hx
 split at hx
 ·rename_i cx0
  obtain ⟨N, hN⟩ := h _ _ hx
  refine lifted (L := [(22, F22 B), (52, F52 H), (53, F53 Q)]) (rc := nrc) (fz := nfz) (fn := Tryd.f16) (by kernel_rfl) (by kernel_rfl) (by kernel_rfl) (by kernel_rfl) rfl ?_ ((k16 B H Q N _).trans hN) ?_
  ·intro p hp; simp only [List.mem_cons, List.not_mem_nil, or_false] at hp; rcases hp with rfl | rfl | rfl
   ·exact h22
   ·exact h52
   ·exact h53
  ·intro l o hd
   simp only [dec16] at hd
   split at hd
   ·obtain rfl := oij hd; exact ⟨rfl, rfl⟩
   ·cases hd
 ·cases hx
def E55 (J : Y62) : Env := mkE TI TY [(62, F62 J)] nrc nfz
noncomputable def c55 : Code := bodyOf Tryd.f55
def nm55_0 : Norm := ⟨[2, 5, 11, 12, 13], [2], [], []⟩
def lv55 : Nat → Option Norm := norms [(5, nm55_0)]
def en55 : End := ⟨[], ⟨[31], [], [], []⟩⟩
def dec55 (l : List TV) (o : List (Nat × TO)) : Option (Int) := match l, o with | [.dv (.int .i64) x0], [] => some (x0) | _, _ => none
def Sl55a (cx0 : Int × LL × Unit) (lx1 : List Int) (last5_a : Int) (t13_a : Int) : TS := ⟨slots 31 [(2, .ptr 2 0 []), (5, .dv (.int .i64) last5_a), (11, .dv (.sl (.int .i64)) lx1), (12, .dv (.int .i64) (lx1.length : Int)), (13, .dv (.int .i64) t13_a)], [(2, .row (.pair (.int .i64) (.pair (.sl (.sl (.int .i64))) (.unit))) ([cx0] : List Cd))]⟩
noncomputable def K55_0 (J : Y62) (N : Nat) : Kont (Int) := kont (E55 J) lv55 N c55 [1, 1, 1, 0, 1, 0] (fin TI en55 (resOf Tryd.f55) dec55)
noncomputable def R55_0 (J : Y62) (N : Nat) (m : Nat) : TS → Option (Int) := loopK (den (E55 J) lv55 N (sub c55 [1, 1, 1, 0, 1, 0, 0])) (TS.norm nm55_0) (K55_0 J N) m
def l55a (J : Y62) (N : Nat) (cx0 : Int × LL × Unit) (lx1 : List Int) : Nat → Int → Int → Option (Int)
 | 0, _, _ => none
 | n + 1, last5_a, t13_a => cond (decide (t13_a < (lx1.length : Int))) (chk (decide (0 ≤ t13_a ∧ t13_a < (lx1.length : Int))) ((J (0 : Int) (lx1.getD t13_a.toNat 0) (w64 ((cx0.2.1.length : Int) - (1 : Int)))).bind fun r1 =>
   cond (!r1) (some (5 : Int))
   (cond (decide ((lx1.getD t13_a.toNat 0) ≤ last5_a)) (some (7 : Int))
   ((l55a J N cx0 lx1 n (lx1.getD t13_a.toNat 0) (w64 (t13_a + 1)))))))
   (some (0 : Int))
theorem wl55a (J : Y62) (N : Nat) (cx0 : Int × LL × Unit) (lx1 : List Int) (m : Nat) (last5_a : Int) (t13_a : Int) : R55_0 J N (m + 1) (Sl55a cx0 lx1 last5_a t13_a) = cond (decide (t13_a < (lx1.length : Int))) (chk (decide (0 ≤ t13_a ∧ t13_a < (lx1.length : Int))) ((J (0 : Int) (lx1.getD t13_a.toNat 0) (w64 ((cx0.2.1.length : Int) - (1 : Int)))).bind fun r1 =>
   cond (!r1) (some (5 : Int))
   (cond (decide ((lx1.getD t13_a.toNat 0) ≤ last5_a)) (some (7 : Int))
   ((R55_0 J N m (Sl55a cx0 lx1 (lx1.getD t13_a.toNat 0) (w64 (t13_a + 1))))))))
   (some (0 : Int)) := by kernel_rfl
theorem ql55a (J : Y62) (N : Nat) (cx0 : Int × LL × Unit) (lx1 : List Int) : ∀ (m : Nat) (last5_a : Int) (t13_a : Int), R55_0 J N m (Sl55a cx0 lx1 last5_a t13_a) = l55a J N cx0 lx1 m last5_a t13_a
        | 0, _, _ => rfl
        | m + 1, last5_a, t13_a => by rw [wl55a]; simp only [l55a, ql55a J N cx0 lx1 m]
def m55 (J : Y62) (N : Nat) (cx0 : Int × LL × Unit) (lx1 : List Int) : Option (Int) :=
   cond ((lx1.length : Int) == (0 : Int)) (some (1 : Int))
   ((l55a J N cx0 lx1 N (-1 : Int) (0 : Int)))
theorem wm55 (J : Y62) (N : Nat) (cx0 : Int × LL × Unit) (lx1 : List Int) : callF (E55 J) lv55 N en55 c55 (resOf Tryd.f55) 29 [.dv (.pair (.int .i64) (.pair (.sl (.sl (.int .i64))) (.unit))) cx0, .dv (.sl (.int .i64)) lx1] [] dec55 = cond ((lx1.length : Int) == (0 : Int)) (some (1 : Int))
   ((R55_0 J N N (Sl55a cx0 lx1 (-1 : Int) (0 : Int)))) := by kernel_rfl
theorem k55 (J : Y62) (N : Nat) (cx0 : Int × LL × Unit) (lx1 : List Int) : callF (E55 J) lv55 N en55 c55 (resOf Tryd.f55) 29 [.dv (.pair (.int .i64) (.pair (.sl (.sl (.int .i64))) (.unit))) cx0, .dv (.sl (.int .i64)) lx1] [] dec55 = m55 J N cx0 lx1 := by rw [wm55]; simp only [m55, ql55a]
theorem ok55 (J : Y62) (h62 : FnOk Tryd.prog 62 (F62 J)) (a : Y55) (h : ∀ cx0 lx1 r, a cx0 lx1 = some r → (∃ N, m55 J N cx0 lx1 = some r)) : FnOk Tryd.prog 55 (F55 a) := by
 intro args Of x hx
 simp only [F55] at hx
 split at hx
 ·rename_i cx0 lx1
  obtain ⟨N, hN⟩ := h _ _ _ hx
  refine lifted (L := [(62, F62 J)]) (rc := nrc) (fz := nfz) (fn := Tryd.f55) (by kernel_rfl) (by kernel_rfl) (by kernel_rfl) (by kernel_rfl) rfl ?_ ((k55 J N _ _).trans hN) ?_
  ·intro p hp; simp only [List.mem_cons, List.not_mem_nil, or_false] at hp; rcases hp with rfl; exact h62
  ·intro l o hd
   simp only [dec55] at hd
   split at hd
   ·obtain rfl := oij hd; exact ⟨rfl, rfl⟩
   ·cases hd
 ·cases hx
def E81 : Env := mkE TI TY [] nrc nfz
noncomputable def c81 : Code := bodyOf Tryd.f81
def nm81_0 : Norm := ⟨[2, 3, 8, 9, 10], [2, 3], [], []⟩
def nm81_1 : Norm := ⟨[2, 3, 8, 9, 10, 14, 15, 16], [2, 3], [], []⟩
def lv81 : Nat → Option Norm := norms [(3, nm81_0), (6, nm81_1)]
def en81 : End := ⟨[(31, .arr 8 (.int .u8))], ⟨[31], [], [], []⟩⟩
def dec81 (l : List TV) (o : List (Nat × TO)) : Option (List Int) := match l, o with | [.dv (.arr 8 (.int .u8)) x0], [] => some (x0) | _, _ => none
def Sl81b (words0 : LL) (t10_a : Int) (t16_b : Int) (o3_b : Wm0T0) : TS := ⟨slots 31 [(2, .ptr 2 0 []), (3, .ptr 3 0 []), (8, .dv (.sl (.sl (.int .i64))) words0), (9, .dv (.int .i64) (words0.length : Int)), (10, .dv (.int .i64) t10_a), (14, .dv (.sl (.int .i64)) (words0.getD t10_a.toNat ([] : List Int))), (15, .dv (.int .i64) ((words0.getD t10_a.toNat ([] : List Int)).length : Int)), (16, .dv (.int .i64) t16_b)], [(2, .row (.arr 8 (.int .u8)) ([([(0 : Int), (0 : Int), (0 : Int), (0 : Int), (0 : Int), (0 : Int), (0 : Int), (0 : Int)] : List Int)] : LL)), (3, .row (.arr 8 (.int .u8)) o3_b)]⟩
def Sl81a (words0 : LL) (t10_a : Int) (o3_a : Wm0T0) : TS := ⟨slots 31 [(2, .ptr 2 0 []), (3, .ptr 3 0 []), (8, .dv (.sl (.sl (.int .i64))) words0), (9, .dv (.int .i64) (words0.length : Int)), (10, .dv (.int .i64) t10_a)], [(2, .row (.arr 8 (.int .u8)) ([([(0 : Int), (0 : Int), (0 : Int), (0 : Int), (0 : Int), (0 : Int), (0 : Int), (0 : Int)] : List Int)] : LL)), (3, .row (.arr 8 (.int .u8)) o3_a)]⟩
noncomputable def K81_0 (N : Nat) : Kont (List Int) := kont (E81) lv81 N c81 [1, 1, 0, 1, 0] (fin TI en81 (resOf Tryd.f81) dec81)
noncomputable def R81_0 (N : Nat) (m : Nat) : TS → Option (List Int) := loopK (den (E81) lv81 N (sub c81 [1, 1, 0, 1, 0, 0])) (TS.norm nm81_0) (K81_0 N) m
noncomputable def K81_1 (N : Nat) (T81_0 : Wm0T1) : Kont (List Int) := kont (E81) lv81 N (sub c81 [1, 1, 0, 1, 0, 0]) [1, 1, 0, 0, 1, 1, 0] (kloop (TS.norm nm81_0) (K81_0 N) T81_0)
noncomputable def R81_1 (N : Nat) (T81_0 : Wm0T1) (m : Nat) : TS → Option (List Int) := loopK (den (E81) lv81 N (sub c81 [1, 1, 0, 1, 0, 0, 1, 1, 0, 0, 1, 1, 0, 0])) (TS.norm nm81_1) (K81_1 N T81_0) m
def l81b (N : Nat) (words0 : LL) (t10_a : Int) (l81a' : Int → LL → Option (List Int)) : Nat → Int → LL → Option (List Int)
 | 0, _, _ => none
 | n + 1, t16_b, o3_b => cond (decide (t16_b < ((words0.getD t10_a.toNat ([] : List Int)).length : Int))) (chk (decide (0 ≤ t16_b ∧ t16_b < ((words0.getD t10_a.toNat ([] : List Int)).length : Int))) (chk (decide (0 ≤ t16_b ∧ t16_b < (8 : Int))) (chk (decide (0 ≤ (words0.getD t10_a.toNat ([] : List Int)).getD t16_b.toNat 0)) (chk (decide (0 ≤ t16_b ∧ t16_b < (8 : Int))) (chk ((decide (t16_b.toNat < (o3_b.getD 0 ([(0 : Int), (0 : Int), (0 : Int), (0 : Int), (0 : Int), (0 : Int), (0 : Int), (0 : Int)] : List Int)).length)) && (true)) ((l81b N words0 t10_a l81a' n (w64 (t16_b + 1)) (o3_b.set 0 ((o3_b.getD 0 ([(0 : Int), (0 : Int), (0 : Int), (0 : Int), (0 : Int), (0 : Int), (0 : Int), (0 : Int)] : List Int)).set t16_b.toNat (bOr .u8 ((o3_b.getD 0 ([(0 : Int), (0 : Int), (0 : Int), (0 : Int), (0 : Int), (0 : Int), (0 : Int), (0 : Int)] : List Int)).getD t16_b.toNat 0) (IntKind.wrap .u8 ((1 : Int) * 2 ^ min (Int.toNat ((words0.getD t10_a.toNat ([] : List Int)).getD t16_b.toNat 0)) 8))))))))))))
   ((l81a' (w64 (t10_a + 1)) o3_b))
theorem wl81b (N : Nat) (words0 : LL) (t10_a : Int) (T81_0 : Wm0T1) (m : Nat) (t16_b : Int) (o3_b : Wm0T0) : R81_1 N T81_0 (m + 1) (Sl81b words0 t10_a t16_b o3_b) = cond (decide (t16_b < ((words0.getD t10_a.toNat ([] : List Int)).length : Int))) (chk (decide (0 ≤ t16_b ∧ t16_b < ((words0.getD t10_a.toNat ([] : List Int)).length : Int))) (chk (decide (0 ≤ t16_b ∧ t16_b < (8 : Int))) (chk (decide (0 ≤ (words0.getD t10_a.toNat ([] : List Int)).getD t16_b.toNat 0)) (chk (decide (0 ≤ t16_b ∧ t16_b < (8 : Int))) (chk ((decide (t16_b.toNat < (o3_b.getD 0 ([(0 : Int), (0 : Int), (0 : Int), (0 : Int), (0 : Int), (0 : Int), (0 : Int), (0 : Int)] : List Int)).length)) && (true)) ((R81_1 N T81_0 m (Sl81b words0 t10_a (w64 (t16_b + 1)) (o3_b.set 0 ((o3_b.getD 0 ([(0 : Int), (0 : Int), (0 : Int), (0 : Int), (0 : Int), (0 : Int), (0 : Int), (0 : Int)] : List Int)).set t16_b.toNat (bOr .u8 ((o3_b.getD 0 ([(0 : Int), (0 : Int), (0 : Int), (0 : Int), (0 : Int), (0 : Int), (0 : Int), (0 : Int)] : List Int)).getD t16_b.toNat 0) (IntKind.wrap .u8 ((1 : Int) * 2 ^ min (Int.toNat ((words0.getD t10_a.toNat ([] : List Int)).getD t16_b.toNat 0)) 8)))))))))))))
   ((T81_0 (Sl81a words0 (w64 (t10_a + 1)) o3_b))) := by kernel_rfl
theorem ql81b (N : Nat) (words0 : LL) (t10_a : Int) (T81_0 : Wm0T1) : ∀ (m : Nat) (t16_b : Int) (o3_b : Wm0T0), R81_1 N T81_0 m (Sl81b words0 t10_a t16_b o3_b) = l81b N words0 t10_a (fun y0 y1 => T81_0 (Sl81a words0 y0 y1)) m t16_b o3_b
        | 0, _, _ => rfl
        | m + 1, t16_b, o3_b => by rw [wl81b]; simp only [l81b, ql81b N words0 t10_a T81_0 m]
def l81a (N : Nat) (words0 : LL) : Nat → Int → LL → Option (List Int)
 | 0, _, _ => none
 | n + 1, t10_a, o3_a => cond (decide (t10_a < (words0.length : Int))) (chk (decide (0 ≤ t10_a ∧ t10_a < (words0.length : Int))) ((l81b N words0 t10_a (fun y0 y1 => (l81a N words0 n y0 y1)) N (0 : Int) o3_a)))
   (some (o3_a.getD 0 ([(0 : Int), (0 : Int), (0 : Int), (0 : Int), (0 : Int), (0 : Int), (0 : Int), (0 : Int)] : List Int)))
theorem wl81a (N : Nat) (words0 : LL) (m : Nat) (t10_a : Int) (o3_a : Wm0T0) : R81_0 N (m + 1) (Sl81a words0 t10_a o3_a) = cond (decide (t10_a < (words0.length : Int))) (chk (decide (0 ≤ t10_a ∧ t10_a < (words0.length : Int))) ((R81_1 N (R81_0 N m) N (Sl81b words0 t10_a (0 : Int) o3_a))))
   (some (o3_a.getD 0 ([(0 : Int), (0 : Int), (0 : Int), (0 : Int), (0 : Int), (0 : Int), (0 : Int), (0 : Int)] : List Int))) := by kernel_rfl
theorem ql81a (N : Nat) (words0 : LL) : ∀ (m : Nat) (t10_a : Int) (o3_a : Wm0T0), R81_0 N m (Sl81a words0 t10_a o3_a) = l81a N words0 m t10_a o3_a
        | 0, _, _ => rfl
        | m + 1, t10_a, o3_a => by rw [wl81a]; simp only [l81a, ql81b, ql81a N words0 m]
def m81 (N : Nat) (words0 : LL) : Option (List Int) :=
   (l81a N words0 N (0 : Int) ([([(0 : Int), (0 : Int), (0 : Int), (0 : Int), (0 : Int), (0 : Int), (0 : Int), (0 : Int)] : List Int)] : LL))
theorem wm81 (N : Nat) (words0 : LL) : callF (E81) lv81 N en81 c81 (resOf Tryd.f81) 30 [.dv (.sl (.sl (.int .i64))) words0] [] dec81 = (R81_0 N N (Sl81a words0 (0 : Int) ([([(0 : Int), (0 : Int), (0 : Int), (0 : Int), (0 : Int), (0 : Int), (0 : Int), (0 : Int)] : List Int)] : LL))) := by kernel_rfl
theorem k81 (N : Nat) (words0 : LL) : callF (E81) lv81 N en81 c81 (resOf Tryd.f81) 30 [.dv (.sl (.sl (.int .i64))) words0] [] dec81 = m81 N words0 := by rw [wm81]; simp only [m81, ql81a]
theorem ok81 (a : Y81) (h : ∀ words0 r, a words0 = some r → (∃ N, m81 N words0 = some r)) : FnOk Tryd.prog 81 (F81 a) := by
 intro args Of x hx
 simp only [F81] at hx
 split at hx
 ·rename_i words0
  obtain ⟨N, hN⟩ := h _ _ hx
  refine lifted (L := []) (rc := nrc) (fz := nfz) (fn := Tryd.f81) (by kernel_rfl) (by kernel_rfl) (by kernel_rfl) (by kernel_rfl) rfl ?_ ((k81 N _).trans hN) ?_
  ·intro p hp; cases hp
  ·intro l o hd
   simp only [dec81] at hd
   split at hd
   ·obtain rfl := oij hd; exact ⟨rfl, rfl⟩
   ·cases hd
 ·cases hx
def E56 (Z : Y81) : Env := mkE TI TY [(81, F81 Z)] nrc nfz
noncomputable def c56 : Code := bodyOf Tryd.f56
def nm56_0 : Norm := ⟨[2, 4, 5, 10, 11, 12], [2, 4, 5], [], []⟩
def nm56_1 : Norm := ⟨[2, 4, 5, 10, 11, 12, 22, 23], [2, 4, 5], [], []⟩
def lv56 : Nat → Option Norm := norms [(3, nm56_0), (6, nm56_1)]
def en56 : End := ⟨[(36, .arr 8 (.int .u8))], ⟨[36], [], [], []⟩⟩
def dec56 (l : List TV) (o : List (Nat × TO)) : Option (List Int) := match l, o with | [.dv (.arr 8 (.int .u8)) x0], [] => some (x0) | _, _ => none
def Sl56b (cx0 : Int × LL × Unit) (lx1 : List Int) (t12_a : Int) (r1 : List Int) (t23_b : Int) (o5_b : Wm0T0) : TS := ⟨slots 36 [(2, .ptr 2 0 []), (4, .ptr 4 0 []), (5, .ptr 5 0 []), (10, .dv (.sl (.int .i64)) lx1), (11, .dv (.int .i64) (lx1.length : Int)), (12, .dv (.int .i64) t12_a), (22, .dv (.arr 8 (.int .u8)) r1), (23, .dv (.int .i64) t23_b)], [(2, .row (.pair (.int .i64) (.pair (.sl (.sl (.int .i64))) (.unit))) ([cx0] : List Cd)), (4, .row (.arr 8 (.int .u8)) ([([(0 : Int), (0 : Int), (0 : Int), (0 : Int), (0 : Int), (0 : Int), (0 : Int), (0 : Int)] : List Int)] : LL)), (5, .row (.arr 8 (.int .u8)) o5_b)]⟩
def Sl56a (cx0 : Int × LL × Unit) (lx1 : List Int) (t12_a : Int) (o5_a : Wm0T0) : TS := ⟨slots 36 [(2, .ptr 2 0 []), (4, .ptr 4 0 []), (5, .ptr 5 0 []), (10, .dv (.sl (.int .i64)) lx1), (11, .dv (.int .i64) (lx1.length : Int)), (12, .dv (.int .i64) t12_a)], [(2, .row (.pair (.int .i64) (.pair (.sl (.sl (.int .i64))) (.unit))) ([cx0] : List Cd)), (4, .row (.arr 8 (.int .u8)) ([([(0 : Int), (0 : Int), (0 : Int), (0 : Int), (0 : Int), (0 : Int), (0 : Int), (0 : Int)] : List Int)] : LL)), (5, .row (.arr 8 (.int .u8)) o5_a)]⟩
noncomputable def K56_0 (Z : Y81) (N : Nat) : Kont (List Int) := kont (E56 Z) lv56 N c56 [1, 1, 0, 1, 0] (fin TI en56 (resOf Tryd.f56) dec56)
noncomputable def R56_0 (Z : Y81) (N : Nat) (m : Nat) : TS → Option (List Int) := loopK (den (E56 Z) lv56 N (sub c56 [1, 1, 0, 1, 0, 0])) (TS.norm nm56_0) (K56_0 Z N) m
noncomputable def K56_1 (Z : Y81) (N : Nat) (T56_0 : Wm0T1) : Kont (List Int) := kont (E56 Z) lv56 N (sub c56 [1, 1, 0, 1, 0, 0]) [1, 1, 0, 0, 1, 1, 0] (kloop (TS.norm nm56_0) (K56_0 Z N) T56_0)
noncomputable def R56_1 (Z : Y81) (N : Nat) (T56_0 : Wm0T1) (m : Nat) : TS → Option (List Int) := loopK (den (E56 Z) lv56 N (sub c56 [1, 1, 0, 1, 0, 0, 1, 1, 0, 0, 1, 1, 0, 0])) (TS.norm nm56_1) (K56_1 Z N T56_0) m
def l56b (Z : Y81) (N : Nat) (cx0 : Int × LL × Unit) (lx1 : List Int) (t12_a : Int) (r1 : List Int) (l56a' : Int → LL → Option (List Int)) : Nat → Int → LL → Option (List Int)
 | 0, _, _ => none
 | n + 1, t23_b, o5_b => cond (decide (t23_b < (8 : Int))) (chk (decide (0 ≤ t23_b ∧ t23_b < (8 : Int))) (chk (decide (0 ≤ t23_b ∧ t23_b < (8 : Int))) (chk (decide (0 ≤ t23_b ∧ t23_b < (8 : Int))) (chk ((decide (t23_b.toNat < (o5_b.getD 0 ([(0 : Int), (0 : Int), (0 : Int), (0 : Int), (0 : Int), (0 : Int), (0 : Int), (0 : Int)] : List Int)).length)) && (true)) ((l56b Z N cx0 lx1 t12_a r1 l56a' n (w64 (t23_b + 1)) (o5_b.set 0 ((o5_b.getD 0 ([(0 : Int), (0 : Int), (0 : Int), (0 : Int), (0 : Int), (0 : Int), (0 : Int), (0 : Int)] : List Int)).set t23_b.toNat (bOr .u8 ((o5_b.getD 0 ([(0 : Int), (0 : Int), (0 : Int), (0 : Int), (0 : Int), (0 : Int), (0 : Int), (0 : Int)] : List Int)).getD t23_b.toNat 0) (r1.getD t23_b.toNat 0))))))))))
   ((l56a' (w64 (t12_a + 1)) o5_b))
theorem wl56b (Z : Y81) (N : Nat) (cx0 : Int × LL × Unit) (lx1 : List Int) (t12_a : Int) (r1 : List Int) (T56_0 : Wm0T1) (m : Nat) (t23_b : Int) (o5_b : Wm0T0) : R56_1 Z N T56_0 (m + 1) (Sl56b cx0 lx1 t12_a r1 t23_b o5_b) = cond (decide (t23_b < (8 : Int))) (chk (decide (0 ≤ t23_b ∧ t23_b < (8 : Int))) (chk (decide (0 ≤ t23_b ∧ t23_b < (8 : Int))) (chk (decide (0 ≤ t23_b ∧ t23_b < (8 : Int))) (chk ((decide (t23_b.toNat < (o5_b.getD 0 ([(0 : Int), (0 : Int), (0 : Int), (0 : Int), (0 : Int), (0 : Int), (0 : Int), (0 : Int)] : List Int)).length)) && (true)) ((R56_1 Z N T56_0 m (Sl56b cx0 lx1 t12_a r1 (w64 (t23_b + 1)) (o5_b.set 0 ((o5_b.getD 0 ([(0 : Int), (0 : Int), (0 : Int), (0 : Int), (0 : Int), (0 : Int), (0 : Int), (0 : Int)] : List Int)).set t23_b.toNat (bOr .u8 ((o5_b.getD 0 ([(0 : Int), (0 : Int), (0 : Int), (0 : Int), (0 : Int), (0 : Int), (0 : Int), (0 : Int)] : List Int)).getD t23_b.toNat 0) (r1.getD t23_b.toNat 0)))))))))))
   ((T56_0 (Sl56a cx0 lx1 (w64 (t12_a + 1)) o5_b))) := by kernel_rfl
theorem ql56b (Z : Y81) (N : Nat) (cx0 : Int × LL × Unit) (lx1 : List Int) (t12_a : Int) (r1 : List Int) (T56_0 : Wm0T1) : ∀ (m : Nat) (t23_b : Int) (o5_b : Wm0T0), R56_1 Z N T56_0 m (Sl56b cx0 lx1 t12_a r1 t23_b o5_b) = l56b Z N cx0 lx1 t12_a r1 (fun y0 y1 => T56_0 (Sl56a cx0 lx1 y0 y1)) m t23_b o5_b
        | 0, _, _ => rfl
        | m + 1, t23_b, o5_b => by rw [wl56b]; simp only [l56b, ql56b Z N cx0 lx1 t12_a r1 T56_0 m]
def l56a (Z : Y81) (N : Nat) (cx0 : Int × LL × Unit) (lx1 : List Int) : Nat → Int → LL → Option (List Int)
 | 0, _, _ => none
 | n + 1, t12_a, o5_a => cond (decide (t12_a < (lx1.length : Int))) (chk (decide (0 ≤ t12_a ∧ t12_a < (lx1.length : Int))) (chk (decide (0 ≤ lx1.getD t12_a.toNat 0 ∧ lx1.getD t12_a.toNat 0 < (cx0.2.1.length : Int))) ((Z ([cx0.2.1.getD ((lx1.getD t12_a.toNat 0).toNat) ([] : List Int)] : LL)).bind fun r1 =>
   (l56b Z N cx0 lx1 t12_a r1 (fun y0 y1 => (l56a Z N cx0 lx1 n y0 y1)) N (0 : Int) o5_a))))
   (some (o5_a.getD 0 ([(0 : Int), (0 : Int), (0 : Int), (0 : Int), (0 : Int), (0 : Int), (0 : Int), (0 : Int)] : List Int)))
theorem wl56a (Z : Y81) (N : Nat) (cx0 : Int × LL × Unit) (lx1 : List Int) (m : Nat) (t12_a : Int) (o5_a : Wm0T0) : R56_0 Z N (m + 1) (Sl56a cx0 lx1 t12_a o5_a) = cond (decide (t12_a < (lx1.length : Int))) (chk (decide (0 ≤ t12_a ∧ t12_a < (lx1.length : Int))) (chk (decide (0 ≤ lx1.getD t12_a.toNat 0 ∧ lx1.getD t12_a.toNat 0 < (cx0.2.1.length : Int))) ((Z ([cx0.2.1.getD ((lx1.getD t12_a.toNat 0).toNat) ([] : List Int)] : LL)).bind fun r1 =>
   (R56_1 Z N (R56_0 Z N m) N (Sl56b cx0 lx1 t12_a r1 (0 : Int) o5_a)))))
   (some (o5_a.getD 0 ([(0 : Int), (0 : Int), (0 : Int), (0 : Int), (0 : Int), (0 : Int), (0 : Int), (0 : Int)] : List Int))) := by kernel_rfl
theorem ql56a (Z : Y81) (N : Nat) (cx0 : Int × LL × Unit) (lx1 : List Int) : ∀ (m : Nat) (t12_a : Int) (o5_a : Wm0T0), R56_0 Z N m (Sl56a cx0 lx1 t12_a o5_a) = l56a Z N cx0 lx1 m t12_a o5_a
        | 0, _, _ => rfl
        | m + 1, t12_a, o5_a => by rw [wl56a]; simp only [l56a, ql56b, ql56a Z N cx0 lx1 m]
def m56 (Z : Y81) (N : Nat) (cx0 : Int × LL × Unit) (lx1 : List Int) : Option (List Int) :=
   (l56a Z N cx0 lx1 N (0 : Int) ([([(0 : Int), (0 : Int), (0 : Int), (0 : Int), (0 : Int), (0 : Int), (0 : Int), (0 : Int)] : List Int)] : LL))
theorem wm56 (Z : Y81) (N : Nat) (cx0 : Int × LL × Unit) (lx1 : List Int) : callF (E56 Z) lv56 N en56 c56 (resOf Tryd.f56) 34 [.dv (.pair (.int .i64) (.pair (.sl (.sl (.int .i64))) (.unit))) cx0, .dv (.sl (.int .i64)) lx1] [] dec56 = (R56_0 Z N N (Sl56a cx0 lx1 (0 : Int) ([([(0 : Int), (0 : Int), (0 : Int), (0 : Int), (0 : Int), (0 : Int), (0 : Int), (0 : Int)] : List Int)] : LL))) := by kernel_rfl
theorem k56 (Z : Y81) (N : Nat) (cx0 : Int × LL × Unit) (lx1 : List Int) : callF (E56 Z) lv56 N en56 c56 (resOf Tryd.f56) 34 [.dv (.pair (.int .i64) (.pair (.sl (.sl (.int .i64))) (.unit))) cx0, .dv (.sl (.int .i64)) lx1] [] dec56 = m56 Z N cx0 lx1 := by rw [wm56]; simp only [m56, ql56a]
theorem ok56 (Z : Y81) (h81 : FnOk Tryd.prog 81 (F81 Z)) (a : Y56) (h : ∀ cx0 lx1 r, a cx0 lx1 = some r → (∃ N, m56 Z N cx0 lx1 = some r)) : FnOk Tryd.prog 56 (F56 a) := by
 intro args Of x hx
 simp only [F56] at hx
 split at hx
 ·rename_i cx0 lx1
  obtain ⟨N, hN⟩ := h _ _ _ hx
  refine lifted (L := [(81, F81 Z)]) (rc := nrc) (fz := nfz) (fn := Tryd.f56) (by kernel_rfl) (by kernel_rfl) (by kernel_rfl) (by kernel_rfl) rfl ?_ ((k56 Z N _ _).trans hN) ?_
  ·intro p hp; simp only [List.mem_cons, List.not_mem_nil, or_false] at hp; rcases hp with rfl; exact h81
  ·intro l o hd
   simp only [dec56] at hd
   split at hd
   ·obtain rfl := oij hd; exact ⟨rfl, rfl⟩
   ·cases hd
 ·cases hx
def E18 (B : Y22) (M : Y55) (P : Y56) : Env := mkE TI TY [(22, F22 B), (55, F55 M), (56, F56 P)] nrc nfz
noncomputable def c18 : Code := bodyOf Tryd.f18
def nm18_0 : Norm := ⟨[7, 22, 23], [], [], []⟩
def lv18 : Nat → Option Norm := norms [(8, nm18_0)]
def en18 : End := ⟨[], ⟨[35, 36], [], [], []⟩⟩
def dec18 (l : List TV) (o : List (Nat × TO)) : Option (Int × Int) := match l, o with | [.dv (.int .i64) x0, .dv (.int .i64) x1], [] => some (x0, x1) | _, _ => none
def Sl18a (n7_a : Int) (t22_a : List Int) (t23_a : Int) : TS := ⟨slots 35 [(7, .dv (.int .i64) n7_a), (22, .dv (.arr 8 (.int .u8)) t22_a), (23, .dv (.int .i64) t23_a)], []⟩
noncomputable def K18_0 (B : Y22) (M : Y55) (P : Y56) (N : Nat) : Kont (Int × Int) := kont (E18 B M P) lv18 N c18 [1, 1, 1, 1, 1, 0, 1, 0] (fin TI en18 (resOf Tryd.f18) dec18)
noncomputable def R18_0 (B : Y22) (M : Y55) (P : Y56) (N : Nat) (m : Nat) : TS → Option (Int × Int) := loopK (den (E18 B M P) lv18 N (sub c18 [1, 1, 1, 1, 1, 0, 1, 0, 0])) (TS.norm nm18_0) (K18_0 B M P N) m
def l18a (B : Y22) (M : Y55) (P : Y56) (N : Nat) : Nat → Int → (List Int) → Int → Option (Int × Int)
 | 0, _, _, _ => none
 | n + 1, n7_a, t22_a, t23_a => cond (decide (t23_a < (8 : Int))) (chk (decide (0 ≤ t23_a ∧ t23_a < (8 : Int))) (chk (decide (0 ≤ t22_a.getD t23_a.toNat 0 ∧ t22_a.getD t23_a.toNat 0 < (16 : Int))) ((l18a B M P N n (w64 (n7_a * (imax (1 : Int) (([(0 : Int), (1 : Int), (1 : Int), (2 : Int), (1 : Int), (2 : Int), (2 : Int), (3 : Int), (1 : Int), (2 : Int), (2 : Int), (3 : Int), (2 : Int), (3 : Int), (3 : Int), (4 : Int)] : List Int).getD ((t22_a.getD t23_a.toNat 0).toNat) (0 : Int))))) t22_a (w64 (t23_a + 1))))))
   (some (n7_a, (0 : Int)))
theorem wl18a (B : Y22) (M : Y55) (P : Y56) (N : Nat) (m : Nat) (n7_a : Int) (t22_a : List Int) (t23_a : Int) : R18_0 B M P N (m + 1) (Sl18a n7_a t22_a t23_a) = cond (decide (t23_a < (8 : Int))) (chk (decide (0 ≤ t23_a ∧ t23_a < (8 : Int))) (chk (decide (0 ≤ t22_a.getD t23_a.toNat 0 ∧ t22_a.getD t23_a.toNat 0 < (16 : Int))) ((R18_0 B M P N m (Sl18a (w64 (n7_a * (imax (1 : Int) (([(0 : Int), (1 : Int), (1 : Int), (2 : Int), (1 : Int), (2 : Int), (2 : Int), (3 : Int), (1 : Int), (2 : Int), (2 : Int), (3 : Int), (2 : Int), (3 : Int), (3 : Int), (4 : Int)] : List Int).getD ((t22_a.getD t23_a.toNat 0).toNat) (0 : Int))))) t22_a (w64 (t23_a + 1)))))))
   (some (n7_a, (0 : Int))) := by kernel_rfl
theorem ql18a (B : Y22) (M : Y55) (P : Y56) (N : Nat) : ∀ (m : Nat) (n7_a : Int) (t22_a : List Int) (t23_a : Int), R18_0 B M P N m (Sl18a n7_a t22_a t23_a) = l18a B M P N m n7_a t22_a t23_a
        | 0, _, _, _ => rfl
        | m + 1, n7_a, t22_a, t23_a => by rw [wl18a]; simp only [l18a, ql18a B M P N m]
def m18 (B : Y22) (M : Y55) (P : Y56) (N : Nat) (cx0 : Int × LL × Unit) (coalition1 : List Int) : Option (Int × Int) :=
   (B cx0).bind fun r1 =>
   cond (r1 == (0 : Int)) ((M cx0 coalition1).bind fun r2 =>
   cond (r2 != (0 : Int)) (some ((0 : Int), r2))
   ((P cx0 coalition1).bind fun r3 =>
   (l18a B M P N N (1 : Int) r3 (0 : Int))))
   (cond (r1 != (0 : Int)) (some ((0 : Int), r1))
   ((P cx0 coalition1).bind fun r4 =>
   (l18a B M P N N (1 : Int) r4 (0 : Int))))
theorem wm18 (B : Y22) (M : Y55) (P : Y56) (N : Nat) (cx0 : Int × LL × Unit) (coalition1 : List Int) : callF (E18 B M P) lv18 N en18 c18 (resOf Tryd.f18) 33 [.dv (.pair (.int .i64) (.pair (.sl (.sl (.int .i64))) (.unit))) cx0, .dv (.sl (.int .i64)) coalition1] [] dec18 = (B cx0).bind fun r1 =>
   cond (r1 == (0 : Int)) ((M cx0 coalition1).bind fun r2 =>
   cond (r2 != (0 : Int)) (some ((0 : Int), r2))
   ((P cx0 coalition1).bind fun r3 =>
   (R18_0 B M P N N (Sl18a (1 : Int) r3 (0 : Int)))))
   (cond (r1 != (0 : Int)) (some ((0 : Int), r1))
   ((P cx0 coalition1).bind fun r4 =>
   (R18_0 B M P N N (Sl18a (1 : Int) r4 (0 : Int))))) := by kernel_rfl
theorem k18 (B : Y22) (M : Y55) (P : Y56) (N : Nat) (cx0 : Int × LL × Unit) (coalition1 : List Int) : callF (E18 B M P) lv18 N en18 c18 (resOf Tryd.f18) 33 [.dv (.pair (.int .i64) (.pair (.sl (.sl (.int .i64))) (.unit))) cx0, .dv (.sl (.int .i64)) coalition1] [] dec18 = m18 B M P N cx0 coalition1 := by rw [wm18]; simp only [m18, ql18a]
theorem ok18 (B : Y22) (M : Y55) (P : Y56) (h22 : FnOk Tryd.prog 22 (F22 B)) (h55 : FnOk Tryd.prog 55 (F55 M)) (h56 : FnOk Tryd.prog 56 (F56 P)) (a : Y18) (h : ∀ cx0 coalition1 r, a cx0 coalition1 = some r → (∃ N, m18 B M P N cx0 coalition1 = some r)) : FnOk Tryd.prog 18 (F18 a) := by
 intro args Of x hx
 simp only [F18] at hx
 split at hx
 ·rename_i cx0 coalition1
  obtain ⟨N, hN⟩ := h _ _ _ hx
  refine lifted (L := [(22, F22 B), (55, F55 M), (56, F56 P)]) (rc := nrc) (fz := nfz) (fn := Tryd.f18) (by kernel_rfl) (by kernel_rfl) (by kernel_rfl) (by kernel_rfl) rfl ?_ ((k18 B M P N _ _).trans hN) ?_
  ·intro p hp; simp only [List.mem_cons, List.not_mem_nil, or_false] at hp; rcases hp with rfl | rfl | rfl
   ·exact h22
   ·exact h55
   ·exact h56
  ·intro l o hd
   simp only [dec18] at hd
   split at hd
   ·obtain rfl := oij hd; exact ⟨rfl, rfl⟩
   ·cases hd
 ·cases hx
def E84 : Env := mkE TI TY [] nrc nfz
noncomputable def c84 : Code := bodyOf Tryd.f84
def nm84_0 : Norm := ⟨[2, 3, 4, 6], [2, 3, 4], [], []⟩
def lv84 : Nat → Option Norm := norms [(2, nm84_0)]
def en84 : End := ⟨[(19, .arr 8 (.int .u8))], ⟨[19], [], [], []⟩⟩
def dec84 (l : List TV) (o : List (Nat × TO)) : Option (List Int) := match l, o with | [.dv (.arr 8 (.int .u8)) x0], [] => some (x0) | _, _ => none
def Sl84a (b1 : List Int) (t6_a : Int) (o2_a : Wm0T0) : TS := ⟨slots 19 [(2, .ptr 2 0 []), (3, .ptr 3 0 []), (4, .ptr 4 0 []), (6, .dv (.int .i64) t6_a)], [(2, .row (.arr 8 (.int .u8)) o2_a), (3, .row (.arr 8 (.int .u8)) ([b1] : LL)), (4, .row (.arr 8 (.int .u8)) ([([(0 : Int), (0 : Int), (0 : Int), (0 : Int), (0 : Int), (0 : Int), (0 : Int), (0 : Int)] : List Int)] : LL))]⟩
noncomputable def K84_0 (N : Nat) : Kont (List Int) := kont (E84) lv84 N c84 [1, 0, 1, 0] (fin TI en84 (resOf Tryd.f84) dec84)
noncomputable def R84_0 (N : Nat) (m : Nat) : TS → Option (List Int) := loopK (den (E84) lv84 N (sub c84 [1, 0, 1, 0, 0])) (TS.norm nm84_0) (K84_0 N) m
def l84a (N : Nat) (b1 : List Int) : Nat → Int → LL → Option (List Int)
 | 0, _, _ => none
 | n + 1, t6_a, o2_a => cond (decide (t6_a < (8 : Int))) (chk (decide (0 ≤ t6_a ∧ t6_a < (8 : Int))) (chk (decide (0 ≤ t6_a ∧ t6_a < (8 : Int))) (chk (decide (0 ≤ t6_a ∧ t6_a < (8 : Int))) (chk ((decide (t6_a.toNat < (o2_a.getD 0 ([(0 : Int), (0 : Int), (0 : Int), (0 : Int), (0 : Int), (0 : Int), (0 : Int), (0 : Int)] : List Int)).length)) && (true)) ((l84a N b1 n (w64 (t6_a + 1)) (o2_a.set 0 ((o2_a.getD 0 ([(0 : Int), (0 : Int), (0 : Int), (0 : Int), (0 : Int), (0 : Int), (0 : Int), (0 : Int)] : List Int)).set t6_a.toNat (bAnd .u8 ((o2_a.getD 0 ([(0 : Int), (0 : Int), (0 : Int), (0 : Int), (0 : Int), (0 : Int), (0 : Int), (0 : Int)] : List Int)).getD t6_a.toNat 0) (b1.getD t6_a.toNat 0))))))))))
   (some (o2_a.getD 0 ([(0 : Int), (0 : Int), (0 : Int), (0 : Int), (0 : Int), (0 : Int), (0 : Int), (0 : Int)] : List Int)))
theorem wl84a (N : Nat) (b1 : List Int) (m : Nat) (t6_a : Int) (o2_a : Wm0T0) : R84_0 N (m + 1) (Sl84a b1 t6_a o2_a) = cond (decide (t6_a < (8 : Int))) (chk (decide (0 ≤ t6_a ∧ t6_a < (8 : Int))) (chk (decide (0 ≤ t6_a ∧ t6_a < (8 : Int))) (chk (decide (0 ≤ t6_a ∧ t6_a < (8 : Int))) (chk ((decide (t6_a.toNat < (o2_a.getD 0 ([(0 : Int), (0 : Int), (0 : Int), (0 : Int), (0 : Int), (0 : Int), (0 : Int), (0 : Int)] : List Int)).length)) && (true)) ((R84_0 N m (Sl84a b1 (w64 (t6_a + 1)) (o2_a.set 0 ((o2_a.getD 0 ([(0 : Int), (0 : Int), (0 : Int), (0 : Int), (0 : Int), (0 : Int), (0 : Int), (0 : Int)] : List Int)).set t6_a.toNat (bAnd .u8 ((o2_a.getD 0 ([(0 : Int), (0 : Int), (0 : Int), (0 : Int), (0 : Int), (0 : Int), (0 : Int), (0 : Int)] : List Int)).getD t6_a.toNat 0) (b1.getD t6_a.toNat 0)))))))))))
   (some (o2_a.getD 0 ([(0 : Int), (0 : Int), (0 : Int), (0 : Int), (0 : Int), (0 : Int), (0 : Int), (0 : Int)] : List Int))) := by kernel_rfl
theorem ql84a (N : Nat) (b1 : List Int) : ∀ (m : Nat) (t6_a : Int) (o2_a : Wm0T0), R84_0 N m (Sl84a b1 t6_a o2_a) = l84a N b1 m t6_a o2_a
        | 0, _, _ => rfl
        | m + 1, t6_a, o2_a => by rw [wl84a]; simp only [l84a, ql84a N b1 m]
def m84 (N : Nat) (ax0 : List Int) (b1 : List Int) : Option (List Int) :=
   (l84a N b1 N (0 : Int) ([ax0] : LL))
theorem wm84 (N : Nat) (ax0 : List Int) (b1 : List Int) : callF (E84) lv84 N en84 c84 (resOf Tryd.f84) 17 [.dv (.arr 8 (.int .u8)) ax0, .dv (.arr 8 (.int .u8)) b1] [] dec84 = (R84_0 N N (Sl84a b1 (0 : Int) ([ax0] : LL))) := by kernel_rfl
theorem k84 (N : Nat) (ax0 : List Int) (b1 : List Int) : callF (E84) lv84 N en84 c84 (resOf Tryd.f84) 17 [.dv (.arr 8 (.int .u8)) ax0, .dv (.arr 8 (.int .u8)) b1] [] dec84 = m84 N ax0 b1 := by rw [wm84]; simp only [m84, ql84a]
theorem ok84 (a : Y84) (h : ∀ ax0 b1 r, a ax0 b1 = some r → (∃ N, m84 N ax0 b1 = some r)) : FnOk Tryd.prog 84 (F84 a) := by
 intro args Of x hx
 simp only [F84] at hx
 split at hx
 ·rename_i ax0 b1
  obtain ⟨N, hN⟩ := h _ _ _ hx
  refine lifted (L := []) (rc := nrc) (fz := nfz) (fn := Tryd.f84) (by kernel_rfl) (by kernel_rfl) (by kernel_rfl) (by kernel_rfl) rfl ?_ ((k84 N _ _).trans hN) ?_
  ·intro p hp; cases hp
  ·intro l o hd
   simp only [dec84] at hd
   split at hd
   ·obtain rfl := oij hd; exact ⟨rfl, rfl⟩
   ·cases hd
 ·cases hx
def E59 (P : Y56) (Z : Y81) (a84 : Y84) : Env := mkE TI TY [(56, F56 P), (81, F81 Z), (84, F84 a84)] nrc nfz
noncomputable def c59 : Code := bodyOf Tryd.f59
def lv59 : Nat → Option Norm := norms []
def en59 : End := ⟨[], ⟨[18], [], [], []⟩⟩
def dec59 (l : List TV) (o : List (Nat × TO)) : Option (Bool) := match l, o with | [.dv (.bool) x0], [] => some (x0) | _, _ => none
def m59 (P : Y56) (Z : Y81) (a84 : Y84) (N : Nat) (cx0 : Int × LL × Unit) (lx1 : List Int) (wx2 : List Int) : Option (Bool) :=
   (P cx0 lx1).bind fun r1 =>
   (Z ([wx2] : LL)).bind fun r2 =>
   (a84 r1 r2).bind fun r3 =>
   (Z ([wx2] : LL)).bind fun r4 =>
   some (DT.beq (.arr 8 (.int .u8)) r3 r4)
theorem k59 (P : Y56) (Z : Y81) (a84 : Y84) (N : Nat) (cx0 : Int × LL × Unit) (lx1 : List Int) (wx2 : List Int) : callF (E59 P Z a84) lv59 N en59 c59 (resOf Tryd.f59) 15 [.dv (.pair (.int .i64) (.pair (.sl (.sl (.int .i64))) (.unit))) cx0, .dv (.sl (.int .i64)) lx1, .dv (.sl (.int .i64)) wx2] [] dec59 = m59 P Z a84 N cx0 lx1 wx2 := by kernel_rfl
theorem ok59 (P : Y56) (Z : Y81) (a84 : Y84) (h56 : FnOk Tryd.prog 56 (F56 P)) (h81 : FnOk Tryd.prog 81 (F81 Z)) (h84 : FnOk Tryd.prog 84 (F84 a84)) (a : Y59) (h : ∀ cx0 lx1 wx2 r, a cx0 lx1 wx2 = some r → (∃ N, m59 P Z a84 N cx0 lx1 wx2 = some r)) : FnOk Tryd.prog 59 (F59 a) := by
 intro args Of x hx
 simp only [F59] at hx
 split at hx
 ·rename_i cx0 lx1 wx2
  obtain ⟨N, hN⟩ := h _ _ _ _ hx
  refine lifted (L := [(56, F56 P), (81, F81 Z), (84, F84 a84)]) (rc := nrc) (fz := nfz) (fn := Tryd.f59) (by kernel_rfl) (by kernel_rfl) (by kernel_rfl) (by kernel_rfl) rfl ?_ ((k59 P Z a84 N _ _ _).trans hN) ?_
  ·intro p hp; simp only [List.mem_cons, List.not_mem_nil, or_false] at hp; rcases hp with rfl | rfl | rfl
   ·exact h56
   ·exact h81
   ·exact h84
  ·intro l o hd
   simp only [dec59] at hd
   split at hd
   ·obtain rfl := oij hd; exact ⟨rfl, rfl⟩
   ·cases hd
 ·cases hx
def E20 (B : Y22) (M : Y55) (a58 : Y58) (D : Y59) : Env := mkE TI TY [(22, F22 B), (55, F55 M), (58, F58 a58), (59, F59 D)] nrc nfz
noncomputable def c20 : Code := bodyOf Tryd.f20
def lv20 : Nat → Option Norm := norms []
def en20 : End := ⟨[], ⟨[30], [], [], []⟩⟩
def dec20 (l : List TV) (o : List (Nat × TO)) : Option (Int) := match l, o with | [.dv (.int .i64) x0], [] => some (x0) | _, _ => none
def m20 (B : Y22) (M : Y55) (a58 : Y58) (D : Y59) (N : Nat) (cx0 : Int × LL × Unit) (coalition1 : List Int) (word2 : List Int) : Option (Int) :=
   (B cx0).bind fun r1 =>
   cond (r1 == (0 : Int)) ((M cx0 coalition1).bind fun r2 =>
   cond (r2 == (0 : Int)) ((a58 cx0 word2).bind fun r3 =>
   cond (r3 == (0 : Int)) ((D cx0 coalition1 word2).bind fun r4 =>
   cond (!r4) (some (13 : Int))
   (some r3))
   (some r3))
   (cond (r2 == (0 : Int)) ((D cx0 coalition1 word2).bind fun r5 =>
   cond (!r5) (some (13 : Int))
   (some r2))
   (some r2)))
   (cond (r1 == (0 : Int)) ((a58 cx0 word2).bind fun r6 =>
   cond (r6 == (0 : Int)) ((D cx0 coalition1 word2).bind fun r7 =>
   cond (!r7) (some (13 : Int))
   (some r6))
   (some r6))
   (cond (r1 == (0 : Int)) ((D cx0 coalition1 word2).bind fun r8 =>
   cond (!r8) (some (13 : Int))
   (some r1))
   (some r1)))
theorem k20 (B : Y22) (M : Y55) (a58 : Y58) (D : Y59) (N : Nat) (cx0 : Int × LL × Unit) (coalition1 : List Int) (word2 : List Int) : callF (E20 B M a58 D) lv20 N en20 c20 (resOf Tryd.f20) 27 [.dv (.pair (.int .i64) (.pair (.sl (.sl (.int .i64))) (.unit))) cx0, .dv (.sl (.int .i64)) coalition1, .dv (.sl (.int .i64)) word2] [] dec20 = m20 B M a58 D N cx0 coalition1 word2 := by kernel_rfl
theorem ok20 (B : Y22) (M : Y55) (a58 : Y58) (D : Y59) (h22 : FnOk Tryd.prog 22 (F22 B)) (h55 : FnOk Tryd.prog 55 (F55 M)) (h58 : FnOk Tryd.prog 58 (F58 a58)) (h59 : FnOk Tryd.prog 59 (F59 D)) (a : Y20) (h : ∀ cx0 coalition1 word2 r, a cx0 coalition1 word2 = some r → (∃ N, m20 B M a58 D N cx0 coalition1 word2 = some r)) : FnOk Tryd.prog 20 (F20 a) := by
 intro args Of x hx
 simp only [F20] at hx
 split at hx
 ·rename_i cx0 coalition1 word2
  obtain ⟨N, hN⟩ := h _ _ _ _ hx
  refine lifted (L := [(22, F22 B), (55, F55 M), (58, F58 a58), (59, F59 D)]) (rc := nrc) (fz := nfz) (fn := Tryd.f20) (by kernel_rfl) (by kernel_rfl) (by kernel_rfl) (by kernel_rfl) rfl ?_ ((k20 B M a58 D N _ _ _).trans hN) ?_
  ·intro p hp; simp only [List.mem_cons, List.not_mem_nil, or_false] at hp; rcases hp with rfl | rfl | rfl | rfl
   ·exact h22
   ·exact h55
   ·exact h58
   ·exact h59
  ·intro l o hd
   simp only [dec20] at hd
   split at hd
   ·obtain rfl := oij hd; exact ⟨rfl, rfl⟩
   ·cases hd
 ·cases hx
def E66 (B : Y22) (a58 : Y58) : Env := mkE TI TY [(22, F22 B), (58, F58 a58)] nrc nfz
noncomputable def c66 : Code := bodyOf Tryd.f66
def lv66 : Nat → Option Norm := norms []
def en66 : End := ⟨[], ⟨[14], [], [], []⟩⟩
def dec66 (l : List TV) (o : List (Nat × TO)) : Option (Int) := match l, o with | [.dv (.int .i64) x0], [] => some (x0) | _, _ => none
def m66 (B : Y22) (a58 : Y58) (N : Nat) (cx0 : Int × LL × Unit) (wx1 : List Int) : Option (Int) :=
   (B cx0).bind fun r1 =>
   cond (r1 != (0 : Int)) (some r1)
   ((a58 cx0 wx1).bind fun r2 =>
   some r2)
theorem k66 (B : Y22) (a58 : Y58) (N : Nat) (cx0 : Int × LL × Unit) (wx1 : List Int) : callF (E66 B a58) lv66 N en66 c66 (resOf Tryd.f66) 12 [.dv (.pair (.int .i64) (.pair (.sl (.sl (.int .i64))) (.unit))) cx0, .dv (.sl (.int .i64)) wx1] [] dec66 = m66 B a58 N cx0 wx1 := by kernel_rfl
theorem ok66 (B : Y22) (a58 : Y58) (h22 : FnOk Tryd.prog 22 (F22 B)) (h58 : FnOk Tryd.prog 58 (F58 a58)) (a : Y66) (h : ∀ cx0 wx1 r, a cx0 wx1 = some r → (∃ N, m66 B a58 N cx0 wx1 = some r)) : FnOk Tryd.prog 66 (F66 a) := by
 intro args Of x hx
 simp only [F66] at hx
 split at hx
 ·rename_i cx0 wx1
  obtain ⟨N, hN⟩ := h _ _ _ hx
  refine lifted (L := [(22, F22 B), (58, F58 a58)]) (rc := nrc) (fz := nfz) (fn := Tryd.f66) (by kernel_rfl) (by kernel_rfl) (by kernel_rfl) (by kernel_rfl) rfl ?_ ((k66 B a58 N _ _).trans hN) ?_
  ·intro p hp; simp only [List.mem_cons, List.not_mem_nil, or_false] at hp; rcases hp with rfl | rfl
   ·exact h22
   ·exact h58
  ·intro l o hd
   simp only [dec66] at hd
   split at hd
   ·obtain rfl := oij hd; exact ⟨rfl, rfl⟩
   ·cases hd
 ·cases hx
def E67 : Env := mkE TI TY [] nrc nfz
noncomputable def c67 : Code := bodyOf Tryd.f67
def lv67 : Nat → Option Norm := norms [(1000001, ⟨[], [2, 3], [], []⟩)]
def en67 : End := ⟨[], ⟨[6], [], [], []⟩⟩
def dec67 (l : List TV) (o : List (Nat × TO)) : Option (Int × Int × LL × Unit) := match l, o, capsOf l o with | [.fn 87 0 2 _], [], [[.el (.int .i64) x0 [], .el (.pair (.int .i64) (.pair (.sl (.sl (.int .i64))) (.unit))) x1 []]] => some (x0, x1) | _, _, _ => none
def m67 (N : Nat) (cx0 : Int × LL × Unit) (size1 : Int) : Option (Int × Int × LL × Unit) :=
   some (size1, cx0)
theorem k67 (N : Nat) (cx0 : Int × LL × Unit) (size1 : Int) : callF (E67) lv67 N en67 c67 (resOf Tryd.f67) 4 [.dv (.pair (.int .i64) (.pair (.sl (.sl (.int .i64))) (.unit))) cx0, .dv (.int .i64) size1] [] dec67 = m67 N cx0 size1 := by kernel_rfl
theorem ok67 (a : Y67) (h : ∀ cx0 size1 r, a cx0 size1 = some r → (∃ N, m67 N cx0 size1 = some r)) : FnOk Tryd.prog 67 (F67 a) := by
 intro args Of x hx
 simp only [F67] at hx
 split at hx
 ·rename_i cx0 size1
  obtain ⟨N, hN⟩ := h _ _ _ hx
  refine liftedS (L := []) (rc := nrc) (fz := nfz) (fn := Tryd.f67) (by kernel_rfl) (by kernel_rfl) (by kernel_rfl) (by kernel_rfl) rfl ?_ ((k67 N _ _).trans hN) ?_
  ·intro p hp; cases hp
  ·intro l o hd
   simp only [dec67] at hd
   split at hd
   ·rename_i heqd
    have hd0 := congrArg (fun c : List (List TV) => c.getD 0 []) heqd
    obtain rfl := oij hd; exact ⟨TV.sim_symm (TV.sim_fn hd0), trivial⟩
   ·cases hd
 ·cases hx
def E68 : Env := mkE TI TY [] nrc nfz
noncomputable def c68 : Code := bodyOf Tryd.f68
def lv68 : Nat → Option Norm := norms []
def en68 : End := ⟨[], ⟨[], [], [(.slot 8, 1500, .int .i64)], []⟩⟩
def dec68 (l : List TV) (o : List (Nat × TO)) : Option (List Int) := match l, o with | [.row 1500], [(1500, .row (.int .i64) x0)] => some (x0) | _, _ => none
def m68 (N : Nat) (s0 : Option (List Int)) : Option (List Int) :=
   cond (s0.isNone) (some ([] : List Int))
   (chk (small (0 + (s0.getD []).length) 8) (some (([] : List Int) ++ (s0.getD []))))
theorem k68 (N : Nat) (s0 : Option (List Int)) : callF (E68) lv68 N en68 c68 (resOf Tryd.f68) 7 [.dv (.nsl (.int .i64)) s0] [] dec68 = m68 N s0 := by kernel_rfl
theorem ok68 (a : Y68) (h : ∀ s0 r, a s0 = some r → (∃ N, m68 N s0 = some r)) : FnOk Tryd.prog 68 (F68 a) := by
 intro args Of x hx
 simp only [F68] at hx
 split at hx
 ·rename_i s0
  obtain ⟨N, hN⟩ := h _ _ hx
  refine lifted (L := []) (rc := nrc) (fz := nfz) (fn := Tryd.f68) (by kernel_rfl) (by kernel_rfl) (by kernel_rfl) (by kernel_rfl) rfl ?_ ((k68 N _).trans hN) ?_
  ·intro p hp; cases hp
  ·intro l o hd
   simp only [dec68] at hd
   split at hd
   ·obtain rfl := oij hd; exact ⟨rfl, rfl⟩
   ·cases hd
 ·cases hx
def E24 (D : Y59) (G : Y66) (C : Y67) (A : Y68) : Env := mkEq TI TY [(59, F59 D), (66, F66 G), (67, F67 C), (68, F68 A)] (fun i => ([(4, [some (.sl (.int .i64))])] : List (Nat × List (Option DT))).lookup i) nfz coalSeq
noncomputable def c24 : Code := bodyOf Tryd.f24
def nm24_0 : Norm := ⟨[2, 3, 4, 5, 17, 18], [2, 3, 4, 5], [], []⟩
def nm24_1 : Norm := ⟨[2, 3, 4, 5, 7, 17, 18, 24], [2, 3, 4, 5, 7], [], []⟩
def lv24 : Nat → Option Norm := norms [(5, nm24_0), (9, nm24_1)]
def en24 : End := ⟨[(40, .sl (.int .i64))], ⟨[40, 41], [], [], []⟩⟩
def dec24 (l : List TV) (o : List (Nat × TO)) : Option (List Int × Int) := match l, o with | [.dv (.sl (.int .i64)) x0, .dv (.int .i64) x1], [] => some (x0, x1) | _, _ => none
def Sl24b (cx0 : Int × LL × Unit) (word1 : List Int) (t18_a : Int) (r2 : Int × Int × LL × Unit) : TS := ⟨slots 40 [(2, .ptr 2 0 []), (3, .ptr 3 0 [0]), (4, .ptr 4 0 [0]), (5, .ptr 5 0 [0]), (7, .ptr 7 0 [0]), (17, .dv (.int .i64) (cx0.2.1.length : Int)), (18, .dv (.int .i64) t18_a), (24, .fn 87 0 2 fun i => ([.el (.int .i64) r2.1 [], .el (.pair (.int .i64) (.pair (.sl (.sl (.int .i64))) (.unit))) r2.2 []] : List TV).getD i .any)], [(2, .row (.pair (.int .i64) (.pair (.sl (.sl (.int .i64))) (.unit))) ([cx0] : List Cd)), (3, .rcd [.dv (.sl (.int .i64)) word1]), (4, .rcd [.dv (.sl (.int .i64)) ([] : List Int)]), (5, .rcd [.dv (.int .i64) (0 : Int)]), (7, .rcd [.dv (.int .i64) t18_a])]⟩
def Sl24a (cx0 : Int × LL × Unit) (word1 : List Int) (t18_a : Int) : TS := ⟨slots 40 [(2, .ptr 2 0 []), (3, .ptr 3 0 [0]), (4, .ptr 4 0 [0]), (5, .ptr 5 0 [0]), (17, .dv (.int .i64) (cx0.2.1.length : Int)), (18, .dv (.int .i64) t18_a)], [(2, .row (.pair (.int .i64) (.pair (.sl (.sl (.int .i64))) (.unit))) ([cx0] : List Cd)), (3, .rcd [.dv (.sl (.int .i64)) word1]), (4, .rcd [.dv (.sl (.int .i64)) ([] : List Int)]), (5, .rcd [.dv (.int .i64) (0 : Int)])]⟩
noncomputable def K24_0 (D : Y59) (G : Y66) (C : Y67) (A : Y68) (N : Nat) : Kont (List Int × Int) := kont (E24 D G C A) lv24 N c24 [1, 1, 0, 1, 0] (fin TI en24 (resOf Tryd.f24) dec24)
noncomputable def R24_0 (D : Y59) (G : Y66) (C : Y67) (A : Y68) (N : Nat) (m : Nat) : TS → Option (List Int × Int) := loopK (den (E24 D G C A) lv24 N (sub c24 [1, 1, 0, 1, 0, 0])) (TS.norm nm24_0) (K24_0 D G C A N) m
noncomputable def K24_1 (D : Y59) (G : Y66) (C : Y67) (A : Y68) (N : Nat) (T24_0 : TS → Option (List Int × Int)) : Kont (List Int × Int) := kont (E24 D G C A) lv24 N (sub c24 [1, 1, 0, 1, 0, 0]) [1, 1, 0, 0, 1, 1, 0] (kloop (TS.norm nm24_0) (K24_0 D G C A N) T24_0)
noncomputable def R24_1 (D : Y59) (G : Y66) (C : Y67) (A : Y68) (N : Nat) (T24_0 : TS → Option (List Int × Int)) (xs : LL) : TS → Option (List Int × Int) := seqK (β := List Int) (fun x s1 K => roundK (denP (E24 D G C A) lv24 N (sub c24 [1, 1, 0, 1, 0, 0, 1, 1, 0, 0, 1, 1, 0, 0])) (denP (E24 D G C A) lv24 N (sub c24 [1, 1, 0, 1, 0, 0, 1, 1, 0, 0, 1, 1, 0, 1])) 25 (.dv (.sl (.int .i64)) x) s1 K) (TS.norm nm24_1) (K24_1 D G C A N T24_0) xs
def l24b (D : Y59) (G : Y66) (C : Y67) (A : Y68) (N : Nat) (cx0 : Int × LL × Unit) (word1 : List Int) (t18_a : Int) (r2 : Int × Int × LL × Unit) (l24a' : Int → Option (List Int × Int)) : LL → Option (List Int × Int)
 | [] => (l24a' (w64 (t18_a + 1)))
 | e3b :: rr => cond ((e3b.length : Int) == (w64 (t18_a + 1))) ((D cx0 e3b word1).bind fun r4 =>
   cond (r4) (chk ((decide (0 < e3b.length)) && (true)) ((A (some e3b)).bind fun r5 =>
   some (r5, (0 : Int))))
   ((l24b D G C A N cx0 word1 t18_a r2 l24a' rr)))
   ((l24b D G C A N cx0 word1 t18_a r2 l24a' rr))
theorem wl24b_0 (D : Y59) (G : Y66) (C : Y67) (A : Y68) (N : Nat) (cx0 : Int × LL × Unit) (word1 : List Int) (t18_a : Int) (r2 : Int × Int × LL × Unit) (T24_0 : TS → Option (List Int × Int)) : R24_1 D G C A N T24_0 [] (Sl24b cx0 word1 t18_a r2) = (T24_0 (Sl24a cx0 word1 (w64 (t18_a + 1)))) := by kernel_rfl
theorem wl24b_1 (D : Y59) (G : Y66) (C : Y67) (A : Y68) (N : Nat) (cx0 : Int × LL × Unit) (word1 : List Int) (t18_a : Int) (r2 : Int × Int × LL × Unit) (T24_0 : TS → Option (List Int × Int)) (e3b : List Int) (rr : LL) : R24_1 D G C A N T24_0 (e3b :: rr) (Sl24b cx0 word1 t18_a r2) = cond ((e3b.length : Int) == (w64 (t18_a + 1))) ((D cx0 e3b word1).bind fun r4 =>
   cond (r4) (chk ((decide (0 < e3b.length)) && (true)) ((A (some e3b)).bind fun r5 =>
   some (r5, (0 : Int))))
   ((R24_1 D G C A N T24_0 rr (Sl24b cx0 word1 t18_a r2))))
   ((R24_1 D G C A N T24_0 rr (Sl24b cx0 word1 t18_a r2))) := by kernel_rfl
theorem ql24b (D : Y59) (G : Y66) (C : Y67) (A : Y68) (N : Nat) (cx0 : Int × LL × Unit) (word1 : List Int) (t18_a : Int) (r2 : Int × Int × LL × Unit) (T24_0 : TS → Option (List Int × Int)) : ∀ (m : LL), R24_1 D G C A N T24_0 m (Sl24b cx0 word1 t18_a r2) = l24b D G C A N cx0 word1 t18_a r2 (fun y0 => T24_0 (Sl24a cx0 word1 y0)) m
        | [] => by rw [wl24b_0]; simp only [l24b]
        | e3b :: rr => by rw [wl24b_1]; simp only [l24b, ql24b D G C A N cx0 word1 t18_a r2 T24_0 rr]
def l24a (D : Y59) (G : Y66) (C : Y67) (A : Y68) (N : Nat) (cx0 : Int × LL × Unit) (word1 : List Int) : Nat → Int → Option (List Int × Int)
 | 0, _ => none
 | n + 1, t18_a => cond (decide (t18_a < (cx0.2.1.length : Int))) ((C cx0 (w64 (t18_a + 1))).bind fun r2 =>
   chk (decide (0 ≤ r2.1 ∧ ((List.length r2.2.2.1 : Nat) : Int) * 8 ≤ 140737488355328)) ((l24b D G C A N cx0 word1 t18_a r2 (fun y0 => (l24a D G C A N cx0 word1 n y0)) (gr (List.length r2.2.2.1) (Int.toNat r2.1) [] 0))))
   (some (([] : List Int), (14 : Int)))
theorem wl24a (D : Y59) (G : Y66) (C : Y67) (A : Y68) (N : Nat) (cx0 : Int × LL × Unit) (word1 : List Int) (m : Nat) (t18_a : Int) : R24_0 D G C A N (m + 1) (Sl24a cx0 word1 t18_a) = cond (decide (t18_a < (cx0.2.1.length : Int))) ((C cx0 (w64 (t18_a + 1))).bind fun r2 =>
   chk (decide (0 ≤ r2.1 ∧ ((List.length r2.2.2.1 : Nat) : Int) * 8 ≤ 140737488355328)) ((R24_1 D G C A N (R24_0 D G C A N m) (gr (List.length r2.2.2.1) (Int.toNat r2.1) [] 0) (Sl24b cx0 word1 t18_a r2))))
   (some (([] : List Int), (14 : Int))) := by kernel_rfl
theorem ql24a (D : Y59) (G : Y66) (C : Y67) (A : Y68) (N : Nat) (cx0 : Int × LL × Unit) (word1 : List Int) : ∀ (m : Nat) (t18_a : Int), R24_0 D G C A N m (Sl24a cx0 word1 t18_a) = l24a D G C A N cx0 word1 m t18_a
        | 0, _ => rfl
        | m + 1, t18_a => by rw [wl24a]; simp only [l24a, ql24b, ql24a D G C A N cx0 word1 m]
def m24 (D : Y59) (G : Y66) (C : Y67) (A : Y68) (N : Nat) (cx0 : Int × LL × Unit) (word1 : List Int) : Option (List Int × Int) :=
   (G cx0 word1).bind fun r1 =>
   cond (r1 != (0 : Int)) (some (([] : List Int), r1))
   ((l24a D G C A N cx0 word1 N (0 : Int)))
theorem wm24 (D : Y59) (G : Y66) (C : Y67) (A : Y68) (N : Nat) (cx0 : Int × LL × Unit) (word1 : List Int) : callF (E24 D G C A) lv24 N en24 c24 (resOf Tryd.f24) 38 [.dv (.pair (.int .i64) (.pair (.sl (.sl (.int .i64))) (.unit))) cx0, .dv (.sl (.int .i64)) word1] [] dec24 = (G cx0 word1).bind fun r1 =>
   cond (r1 != (0 : Int)) (some (([] : List Int), r1))
   ((R24_0 D G C A N N (Sl24a cx0 word1 (0 : Int)))) := by kernel_rfl
theorem k24 (D : Y59) (G : Y66) (C : Y67) (A : Y68) (N : Nat) (cx0 : Int × LL × Unit) (word1 : List Int) : callF (E24 D G C A) lv24 N en24 c24 (resOf Tryd.f24) 38 [.dv (.pair (.int .i64) (.pair (.sl (.sl (.int .i64))) (.unit))) cx0, .dv (.sl (.int .i64)) word1] [] dec24 = m24 D G C A N cx0 word1 := by rw [wm24]; simp only [m24, ql24a]
theorem ok24 (D : Y59) (G : Y66) (C : Y67) (A : Y68) (h59 : FnOk Tryd.prog 59 (F59 D)) (h66 : FnOk Tryd.prog 66 (F66 G)) (h67 : FnOk Tryd.prog 67 (F67 C)) (h68 : FnOk Tryd.prog 68 (F68 A)) (a : Y24) (h : ∀ cx0 word1 r, a cx0 word1 = some r → (∃ N, m24 D G C A N cx0 word1 = some r)) : FnOk Tryd.prog 24 (F24 a) := by
 intro args Of x hx
 simp only [F24] at hx
 split at hx
 ·rename_i cx0 word1
  obtain ⟨N, hN⟩ := h _ _ _ hx
  refine liftedQ (L := [(59, F59 D), (66, F66 G), (67, F67 C), (68, F68 A)]) (rc := (fun i => ([(4, [some (.sl (.int .i64))])] : List (Nat × List (Option DT))).lookup i)) (fz := nfz) (fn := Tryd.f24) (by kernel_rfl) (by kernel_rfl) (by kernel_rfl) (by kernel_rfl) rfl ?_ coalSeq_ok ((k24 D G C A N _ _).trans hN) ?_
  ·intro p hp; simp only [List.mem_cons, List.not_mem_nil, or_false] at hp; rcases hp with rfl | rfl | rfl | rfl
   ·exact h59
   ·exact h66
   ·exact h67
   ·exact h68
  ·intro l o hd
   simp only [dec24] at hd
   split at hd
   ·obtain rfl := oij hd; exact ⟨rfl, rfl⟩
   ·cases hd
 ·cases hx
def E90c : Env := mkE TI TY [] nrc (fun i => ([25] : List Nat).contains i)
noncomputable def c90c : Code := bodyOf Tryd.f90
def lv90c : Nat → Option Norm := norms []
def en90c : End := ⟨[], ⟨[], [], [(.slot 27, 1500, .int .i64)], []⟩⟩
def dec90c (l : List TV) (o : List (Nat × TO)) : Option (List Int) := match l, o with | [.row 1500], [(1500, .row (.int .i64) x0)] => some (x0) | _, _ => none
def m90c (N : Nat) (n1 : Int) : Option (List Int) :=
   cond (decide (n1 < (0 : Int))) (none)
   (cond (decide ((w64 (n1 - (0 : Int))) > (0 : Int))) (chk (decide ((0 : Int) < (w64 (n1 - (0 : Int)))) && mkOk (w64 (n1 - (0 : Int))) (w64 (n1 - (0 : Int))) 8) (chk (decide (0 ≤ (0 : Int) ∧ (0 : Int) ≤ ((List.replicate ((w64 (n1 - (0 : Int))).toNat) (0 : Int)).length : Int))) (some ((List.replicate ((w64 (n1 - (0 : Int))).toNat) (0 : Int)).take 0))))
   (some ([] : List Int)))
theorem k90c (N : Nat) (n1 : Int) : callF (E90c) lv90c N en90c c90c (resOf Tryd.f90) 25 [.nl, .dv (.int .i64) n1] [] dec90c = m90c N n1 := by kernel_rfl
theorem ok90c (a : Y90c) (h : ∀ n1 r, a n1 = some r → (∃ N, m90c N n1 = some r)) : FnOk Tryd.prog 90 (F90c a) := by
 intro args Of x hx
 simp only [F90c] at hx
 split at hx
 ·rename_i n1
  obtain ⟨N, hN⟩ := h _ _ hx
  refine lifted (L := []) (rc := nrc) (fz := (fun i => ([25] : List Nat).contains i)) (fn := Tryd.f90) (by kernel_rfl) (by kernel_rfl) (by kernel_rfl) (by kernel_rfl) rfl ?_ ((k90c N _).trans hN) ?_
  ·intro p hp; cases hp
  ·intro l o hd
   simp only [dec90c] at hd
   split at hd
   ·obtain rfl := oij hd; exact ⟨rfl, rfl⟩
   ·cases hd
 ·cases hx
def E73 (a90c : Y90c) : Env := mkE TI TY [(90, F90c a90c)] nrc nfz
noncomputable def c73 : Code := bodyOf Tryd.f73
def nm73_0 : Norm := ⟨[0, 3, 9, 10, 11], [], [], []⟩
def nm73_1 : Norm := ⟨[25, 26, 27], [], [(.slot 6, 1006, .int .i64)], []⟩
def lv73 : Nat → Option Norm := norms [(3, nm73_0), (11, nm73_1)]
def en73 : End := ⟨[(36, .sl (.int .i64))], ⟨[36], [], [], []⟩⟩
def dec73 (l : List TV) (o : List (Nat × TO)) : Option (List Int) := match l, o with | [.dv (.sl (.int .i64)) x0], [] => some (x0) | _, _ => none
def Sl73b (slices0 : LL) (t27_b : Int) (newslice6_b : List Int) : TS := ⟨slots 36 [(6, .row 1006), (25, .dv (.sl (.sl (.int .i64))) slices0), (26, .dv (.int .i64) (slices0.length : Int)), (27, .dv (.int .i64) t27_b)], [(1006, .row (.int .i64) newslice6_b)]⟩
def Sl73a (slices0 : LL) (size3_a : Int) (t11_a : Int) : TS := ⟨slots 36 [(0, .dv (.sl (.sl (.int .i64))) slices0), (3, .dv (.int .i64) size3_a), (9, .dv (.sl (.sl (.int .i64))) slices0), (10, .dv (.int .i64) (slices0.length : Int)), (11, .dv (.int .i64) t11_a)], []⟩
noncomputable def K73_0 (a90c : Y90c) (N : Nat) : Kont (List Int) := kont (E73 a90c) lv73 N c73 [1, 1, 0, 1, 0] (fin TI en73 (resOf Tryd.f73) dec73)
noncomputable def R73_0 (a90c : Y90c) (N : Nat) (m : Nat) : TS → Option (List Int) := loopK (den (E73 a90c) lv73 N (sub c73 [1, 1, 0, 1, 0, 0])) (TS.norm nm73_0) (K73_0 a90c N) m
noncomputable def K73_1 (a90c : Y90c) (N : Nat) : Kont (List Int) := kont (E73 a90c) lv73 N c73 [1, 1, 1, 1, 0, 1, 0] (fin TI en73 (resOf Tryd.f73) dec73)
noncomputable def R73_1 (a90c : Y90c) (N : Nat) (m : Nat) : TS → Option (List Int) := loopK (den (E73 a90c) lv73 N (sub c73 [1, 1, 1, 1, 0, 1, 0, 0])) (TS.norm nm73_1) (K73_1 a90c N) m
def l73b (a90c : Y90c) (N : Nat) (slices0 : LL) : Nat → Int → (List Int) → Option (List Int)
 | 0, _, _ => none
 | n + 1, t27_b, newslice6_b => cond (decide (t27_b < (slices0.length : Int))) (chk (decide (0 ≤ t27_b ∧ t27_b < (slices0.length : Int))) (chk (small (newslice6_b.length + (slices0.getD t27_b.toNat ([] : List Int)).length) 8) ((l73b a90c N slices0 n (w64 (t27_b + 1)) (newslice6_b ++ (slices0.getD t27_b.toNat ([] : List Int)))))))
   (some newslice6_b)
theorem wl73b (a90c : Y90c) (N : Nat) (slices0 : LL) (m : Nat) (t27_b : Int) (newslice6_b : List Int) : R73_1 a90c N (m + 1) (Sl73b slices0 t27_b newslice6_b) = cond (decide (t27_b < (slices0.length : Int))) (chk (decide (0 ≤ t27_b ∧ t27_b < (slices0.length : Int))) (chk (small (newslice6_b.length + (slices0.getD t27_b.toNat ([] : List Int)).length) 8) ((R73_1 a90c N m (Sl73b slices0 (w64 (t27_b + 1)) (newslice6_b ++ (slices0.getD t27_b.toNat ([] : List Int))))))))
   (some newslice6_b) := by kernel_rfl
theorem ql73b (a90c : Y90c) (N : Nat) (slices0 : LL) : ∀ (m : Nat) (t27_b : Int) (newslice6_b : List Int), R73_1 a90c N m (Sl73b slices0 t27_b newslice6_b) = l73b a90c N slices0 m t27_b newslice6_b
        | 0, _, _ => rfl
        | m + 1, t27_b, newslice6_b => by rw [wl73b]; simp only [l73b, ql73b a90c N slices0 m]
def l73a (a90c : Y90c) (N : Nat) (slices0 : LL) : Nat → Int → Int → Option (List Int)
 | 0, _, _ => none
 | n + 1, size3_a, t11_a => cond (decide (t11_a < (slices0.length : Int))) (chk (decide (0 ≤ t11_a ∧ t11_a < (slices0.length : Int))) (cond (decide ((w64 (size3_a + ((slices0.getD t11_a.toNat ([] : List Int)).length : Int))) < (0 : Int))) (none)
   ((l73a a90c N slices0 n (w64 (size3_a + ((slices0.getD t11_a.toNat ([] : List Int)).length : Int))) (w64 (t11_a + 1))))))
   ((a90c size3_a).bind fun r1 =>
   (l73b a90c N slices0 N (0 : Int) r1))
theorem wl73a (a90c : Y90c) (N : Nat) (slices0 : LL) (m : Nat) (size3_a : Int) (t11_a : Int) : R73_0 a90c N (m + 1) (Sl73a slices0 size3_a t11_a) = cond (decide (t11_a < (slices0.length : Int))) (chk (decide (0 ≤ t11_a ∧ t11_a < (slices0.length : Int))) (cond (decide ((w64 (size3_a + ((slices0.getD t11_a.toNat ([] : List Int)).length : Int))) < (0 : Int))) (none)
   ((R73_0 a90c N m (Sl73a slices0 (w64 (size3_a + ((slices0.getD t11_a.toNat ([] : List Int)).length : Int))) (w64 (t11_a + 1)))))))
   ((a90c size3_a).bind fun r1 =>
   (R73_1 a90c N N (Sl73b slices0 (0 : Int) r1))) := by kernel_rfl
theorem ql73a (a90c : Y90c) (N : Nat) (slices0 : LL) : ∀ (m : Nat) (size3_a : Int) (t11_a : Int), R73_0 a90c N m (Sl73a slices0 size3_a t11_a) = l73a a90c N slices0 m size3_a t11_a
        | 0, _, _ => rfl
        | m + 1, size3_a, t11_a => by rw [wl73a]; simp only [l73a, ql73b, ql73a a90c N slices0 m]
def m73 (a90c : Y90c) (N : Nat) (slices0 : LL) : Option (List Int) :=
   (l73a a90c N slices0 N (0 : Int) (0 : Int))
theorem wm73 (a90c : Y90c) (N : Nat) (slices0 : LL) : callF (E73 a90c) lv73 N en73 c73 (resOf Tryd.f73) 35 [.dv (.sl (.sl (.int .i64))) slices0] [] dec73 = (R73_0 a90c N N (Sl73a slices0 (0 : Int) (0 : Int))) := by kernel_rfl
theorem k73 (a90c : Y90c) (N : Nat) (slices0 : LL) : callF (E73 a90c) lv73 N en73 c73 (resOf Tryd.f73) 35 [.dv (.sl (.sl (.int .i64))) slices0] [] dec73 = m73 a90c N slices0 := by rw [wm73]; simp only [m73, ql73a]
theorem ok73 (a90c : Y90c) (h90c : FnOk Tryd.prog 90 (F90c a90c)) (a : Y73) (h : ∀ slices0 r, a slices0 = some r → (∃ N, m73 a90c N slices0 = some r)) : FnOk Tryd.prog 73 (F73 a) := by
 intro args Of x hx
 simp only [F73] at hx
 split at hx
 ·rename_i slices0
  obtain ⟨N, hN⟩ := h _ _ hx
  refine lifted (L := [(90, F90c a90c)]) (rc := nrc) (fz := nfz) (fn := Tryd.f73) (by kernel_rfl) (by kernel_rfl) (by kernel_rfl) (by kernel_rfl) rfl ?_ ((k73 a90c N _).trans hN) ?_
  ·intro p hp; simp only [List.mem_cons, List.not_mem_nil, or_false] at hp; rcases hp with rfl; exact h90c
  ·intro l o hd
   simp only [dec73] at hd
   split at hd
   ·obtain rfl := oij hd; exact ⟨rfl, rfl⟩
   ·cases hd
 ·cases hx
def E70 (D : Y59) (U : Y73) : Env := mkE TI TY [(59, F59 D), (73, F73 U)] nrc nfz
noncomputable def c70 : Code := bodyOf Tryd.f70
def nm70_0 : Norm := ⟨[1, 2, 3, 9, 10], [3], [], []⟩
def lv70 : Nat → Option Norm := norms [(2, nm70_0)]
def en70 : End := ⟨[], ⟨[30], [], [], []⟩⟩
def dec70 (l : List TV) (o : List (Nat × TO)) : Option (Bool) := match l, o with | [.dv (.bool) x0], [] => some (x0) | _, _ => none
def Sl70a (cx0 : Int × LL × Unit) (lx1 : List Int) (wx2 : List Int) (t10_a : Int) : TS := ⟨slots 30 [(1, .dv (.sl (.int .i64)) lx1), (2, .dv (.sl (.int .i64)) wx2), (3, .ptr 3 0 []), (9, .dv (.int .i64) (lx1.length : Int)), (10, .dv (.int .i64) t10_a)], [(3, .row (.pair (.int .i64) (.pair (.sl (.sl (.int .i64))) (.unit))) ([cx0] : List Cd))]⟩
noncomputable def K70_0 (D : Y59) (U : Y73) (N : Nat) : Kont (Bool) := kont (E70 D U) lv70 N c70 [1, 0, 1, 0] (fin TI en70 (resOf Tryd.f70) dec70)
noncomputable def R70_0 (D : Y59) (U : Y73) (N : Nat) (m : Nat) : TS → Option (Bool) := loopK (den (E70 D U) lv70 N (sub c70 [1, 0, 1, 0, 0])) (TS.norm nm70_0) (K70_0 D U N) m
def l70a (D : Y59) (U : Y73) (N : Nat) (cx0 : Int × LL × Unit) (lx1 : List Int) (wx2 : List Int) : Nat → Int → Option (Bool)
 | 0, _ => none
 | n + 1, t10_a => cond (decide (t10_a < (lx1.length : Int))) (chk (decide (0 ≤ t10_a ∧ t10_a ≤ (lx1.length : Int))) (chk (decide (0 ≤ w64 (t10_a + 1) ∧ w64 (t10_a + 1) ≤ (lx1.length : Int))) ((U ([lx1.take t10_a.toNat, lx1.drop ((w64 (t10_a + 1)).toNat)] : LL)).bind fun r1 =>
   (D cx0 r1 wx2).bind fun r2 =>
   cond (r2) (some false)
   ((l70a D U N cx0 lx1 wx2 n (w64 (t10_a + 1)))))))
   ((D cx0 lx1 wx2).bind fun r3 =>
   some r3)
theorem wl70a (D : Y59) (U : Y73) (N : Nat) (cx0 : Int × LL × Unit) (lx1 : List Int) (wx2 : List Int) (m : Nat) (t10_a : Int) : R70_0 D U N (m + 1) (Sl70a cx0 lx1 wx2 t10_a) = cond (decide (t10_a < (lx1.length : Int))) (chk (decide (0 ≤ t10_a ∧ t10_a ≤ (lx1.length : Int))) (chk (decide (0 ≤ w64 (t10_a + 1) ∧ w64 (t10_a + 1) ≤ (lx1.length : Int))) ((U ([lx1.take t10_a.toNat, lx1.drop ((w64 (t10_a + 1)).toNat)] : LL)).bind fun r1 =>
   (D cx0 r1 wx2).bind fun r2 =>
   cond (r2) (some false)
   ((R70_0 D U N m (Sl70a cx0 lx1 wx2 (w64 (t10_a + 1))))))))
   ((D cx0 lx1 wx2).bind fun r3 =>
   some r3) := by kernel_rfl
theorem ql70a (D : Y59) (U : Y73) (N : Nat) (cx0 : Int × LL × Unit) (lx1 : List Int) (wx2 : List Int) : ∀ (m : Nat) (t10_a : Int), R70_0 D U N m (Sl70a cx0 lx1 wx2 t10_a) = l70a D U N cx0 lx1 wx2 m t10_a
        | 0, _ => rfl
        | m + 1, t10_a => by rw [wl70a]; simp only [l70a, ql70a D U N cx0 lx1 wx2 m]
def m70 (D : Y59) (U : Y73) (N : Nat) (cx0 : Int × LL × Unit) (lx1 : List Int) (wx2 : List Int) : Option (Bool) :=
   (l70a D U N cx0 lx1 wx2 N (0 : Int))
theorem wm70 (D : Y59) (U : Y73) (N : Nat) (cx0 : Int × LL × Unit) (lx1 : List Int) (wx2 : List Int) : callF (E70 D U) lv70 N en70 c70 (resOf Tryd.f70) 27 [.dv (.pair (.int .i64) (.pair (.sl (.sl (.int .i64))) (.unit))) cx0, .dv (.sl (.int .i64)) lx1, .dv (.sl (.int .i64)) wx2] [] dec70 = (R70_0 D U N N (Sl70a cx0 lx1 wx2 (0 : Int))) := by kernel_rfl
theorem k70 (D : Y59) (U : Y73) (N : Nat) (cx0 : Int × LL × Unit) (lx1 : List Int) (wx2 : List Int) : callF (E70 D U) lv70 N en70 c70 (resOf Tryd.f70) 27 [.dv (.pair (.int .i64) (.pair (.sl (.sl (.int .i64))) (.unit))) cx0, .dv (.sl (.int .i64)) lx1, .dv (.sl (.int .i64)) wx2] [] dec70 = m70 D U N cx0 lx1 wx2 := by rw [wm70]; simp only [m70, ql70a]
theorem ok70 (D : Y59) (U : Y73) (h59 : FnOk Tryd.prog 59 (F59 D)) (h73 : FnOk Tryd.prog 73 (F73 U)) (a : Y70) (h : ∀ cx0 lx1 wx2 r, a cx0 lx1 wx2 = some r → (∃ N, m70 D U N cx0 lx1 wx2 = some r)) : FnOk Tryd.prog 70 (F70 a) := by
 intro args Of x hx
 simp only [F70] at hx
 split at hx
 ·rename_i cx0 lx1 wx2
  obtain ⟨N, hN⟩ := h _ _ _ _ hx
  refine lifted (L := [(59, F59 D), (73, F73 U)]) (rc := nrc) (fz := nfz) (fn := Tryd.f70) (by kernel_rfl) (by kernel_rfl) (by kernel_rfl) (by kernel_rfl) rfl ?_ ((k70 D U N _ _ _).trans hN) ?_
  ·intro p hp; simp only [List.mem_cons, List.not_mem_nil, or_false] at hp; rcases hp with rfl | rfl
   ·exact h59
   ·exact h73
  ·intro l o hd
   simp only [dec70] at hd
   split at hd
   ·obtain rfl := oij hd; exact ⟨rfl, rfl⟩
   ·cases hd
 ·cases hx
def E26 (J : Y62) (G : Y66) (C : Y67) (A : Y68) (a70 : Y70) : Env := mkEq TI TY [(62, F62 J), (66, F66 G), (67, F67 C), (68, F68 A), (70, F70 a70)] (fun i => ([(9, [some (.arr 0 (.sl (.int .i64)))])] : List (Nat × List (Option DT))).lookup i) nfz coalSeq
noncomputable def c26 : Code := bodyOf Tryd.f26
def nm26_0 : Norm := ⟨[3, 4, 6, 7, 9, 24], [3, 4, 9], [(.fld 9 0, 2100, .sl (.int .i64))], []⟩
def lv26 : Nat → Option Norm := norms [(9, nm26_0)]
def en26 : End := ⟨[(36, .sl (.sl (.int .i64)))], ⟨[36, 37], [], [], []⟩⟩
def dec26 (l : List TV) (o : List (Nat × TO)) : Option (LL × Int) := match l, o with | [.dv (.sl (.sl (.int .i64))) x0, .dv (.int .i64) x1], [] => some (x0, x1) | _, _ => none
def Sl26a (cx0 : Int × LL × Unit) (word1 : List Int) (r3 : Int × Int × LL × Unit) (o2100_a : Wm0T0) : TS := ⟨slots 36 [(3, .ptr 3 0 []), (4, .ptr 4 0 [0]), (6, .nl), (7, .dv (.int .i64) (0 : Int)), (9, .ptr 9 0 [0]), (24, .fn 87 0 2 fun i => ([.el (.int .i64) r3.1 [], .el (.pair (.int .i64) (.pair (.sl (.sl (.int .i64))) (.unit))) r3.2 []] : List TV).getD i .any)], [(2100, .row (.sl (.int .i64)) o2100_a), (3, .row (.pair (.int .i64) (.pair (.sl (.sl (.int .i64))) (.unit))) ([cx0] : List Cd)), (4, .rcd [.dv (.sl (.int .i64)) word1]), (9, .rcd [.row 2100])]⟩
noncomputable def K26_0 (J : Y62) (G : Y66) (C : Y67) (A : Y68) (a70 : Y70) (N : Nat) : Kont (LL × Int) := kont (E26 J G C A a70) lv26 N c26 [1, 1, 1, 1, 0, 1, 0] (fin TI en26 (resOf Tryd.f26) dec26)
noncomputable def R26_0 (J : Y62) (G : Y66) (C : Y67) (A : Y68) (a70 : Y70) (N : Nat) (xs : LL) : TS → Option (LL × Int) := seqK (β := List Int) (fun x s1 K => roundK (denP (E26 J G C A a70) lv26 N (sub c26 [1, 1, 1, 1, 0, 1, 0, 0])) (denP (E26 J G C A a70) lv26 N (sub c26 [1, 1, 1, 1, 0, 1, 0, 1])) 25 (.dv (.sl (.int .i64)) x) s1 K) (TS.norm nm26_0) (K26_0 J G C A a70 N) xs
def l26a (J : Y62) (G : Y66) (C : Y67) (A : Y68) (a70 : Y70) (N : Nat) (cx0 : Int × LL × Unit) (word1 : List Int) (r3 : Int × Int × LL × Unit) : LL → LL → Option (LL × Int)
 | [], o2100_a => some (o2100_a, (0 : Int))
 | e4a :: rr, o2100_a => (a70 cx0 e4a word1).bind fun r5 =>
   cond (r5) (chk ((decide (0 < e4a.length)) && (true)) ((A (some e4a)).bind fun r6 =>
   chk (small (o2100_a.length + 1) 24) ((l26a J G C A a70 N cx0 word1 r3 rr (o2100_a ++ ([r6] : LL))))))
   ((l26a J G C A a70 N cx0 word1 r3 rr o2100_a))
theorem wl26a_0 (J : Y62) (G : Y66) (C : Y67) (A : Y68) (a70 : Y70) (N : Nat) (cx0 : Int × LL × Unit) (word1 : List Int) (r3 : Int × Int × LL × Unit) (o2100_a : Wm0T0) : R26_0 J G C A a70 N [] (Sl26a cx0 word1 r3 o2100_a) = some (o2100_a, (0 : Int)) := by kernel_rfl
theorem wl26a_1 (J : Y62) (G : Y66) (C : Y67) (A : Y68) (a70 : Y70) (N : Nat) (cx0 : Int × LL × Unit) (word1 : List Int) (r3 : Int × Int × LL × Unit) (e4a : List Int) (rr : LL) (o2100_a : Wm0T0) : R26_0 J G C A a70 N (e4a :: rr) (Sl26a cx0 word1 r3 o2100_a) = (a70 cx0 e4a word1).bind fun r5 =>
   cond (r5) (chk ((decide (0 < e4a.length)) && (true)) ((A (some e4a)).bind fun r6 =>
   chk (small (o2100_a.length + 1) 24) ((R26_0 J G C A a70 N rr (Sl26a cx0 word1 r3 (o2100_a ++ ([r6] : LL)))))))
   ((R26_0 J G C A a70 N rr (Sl26a cx0 word1 r3 o2100_a))) := by kernel_rfl
theorem ql26a (J : Y62) (G : Y66) (C : Y67) (A : Y68) (a70 : Y70) (N : Nat) (cx0 : Int × LL × Unit) (word1 : List Int) (r3 : Int × Int × LL × Unit) : ∀ (m : LL) (o2100_a : Wm0T0), R26_0 J G C A a70 N m (Sl26a cx0 word1 r3 o2100_a) = l26a J G C A a70 N cx0 word1 r3 m o2100_a
        | [], o2100_a => by rw [wl26a_0]; simp only [l26a]
        | e4a :: rr, o2100_a => by rw [wl26a_1]; simp only [l26a, ql26a J G C A a70 N cx0 word1 r3 rr]
def m26 (J : Y62) (G : Y66) (C : Y67) (A : Y68) (a70 : Y70) (N : Nat) (cx0 : Int × LL × Unit) (word1 : List Int) (size2 : Int) : Option (LL × Int) :=
   (G cx0 word1).bind fun r1 =>
   cond (r1 != (0 : Int)) (some (([] : LL), r1))
   ((J (1 : Int) size2 (10 : Int)).bind fun r2 =>
   cond (!r2) (some (([] : LL), (4 : Int)))
   ((C cx0 size2).bind fun r3 =>
   chk (decide (0 ≤ r3.1 ∧ ((List.length r3.2.2.1 : Nat) : Int) * 8 ≤ 140737488355328)) ((l26a J G C A a70 N cx0 word1 r3 (gr (List.length r3.2.2.1) (Int.toNat r3.1) [] 0) ([] : LL)))))
theorem wm26 (J : Y62) (G : Y66) (C : Y67) (A : Y68) (a70 : Y70) (N : Nat) (cx0 : Int × LL × Unit) (word1 : List Int) (size2 : Int) : callF (E26 J G C A a70) lv26 N en26 c26 (resOf Tryd.f26) 33 [.dv (.pair (.int .i64) (.pair (.sl (.sl (.int .i64))) (.unit))) cx0, .dv (.sl (.int .i64)) word1, .dv (.int .i64) size2] [] dec26 = (G cx0 word1).bind fun r1 =>
   cond (r1 != (0 : Int)) (some (([] : LL), r1))
   ((J (1 : Int) size2 (10 : Int)).bind fun r2 =>
   cond (!r2) (some (([] : LL), (4 : Int)))
   ((C cx0 size2).bind fun r3 =>
   chk (decide (0 ≤ r3.1 ∧ ((List.length r3.2.2.1 : Nat) : Int) * 8 ≤ 140737488355328)) ((R26_0 J G C A a70 N (gr (List.length r3.2.2.1) (Int.toNat r3.1) [] 0) (Sl26a cx0 word1 r3 ([] : LL)))))) := by kernel_rfl
theorem k26 (J : Y62) (G : Y66) (C : Y67) (A : Y68) (a70 : Y70) (N : Nat) (cx0 : Int × LL × Unit) (word1 : List Int) (size2 : Int) : callF (E26 J G C A a70) lv26 N en26 c26 (resOf Tryd.f26) 33 [.dv (.pair (.int .i64) (.pair (.sl (.sl (.int .i64))) (.unit))) cx0, .dv (.sl (.int .i64)) word1, .dv (.int .i64) size2] [] dec26 = m26 J G C A a70 N cx0 word1 size2 := by rw [wm26]; simp only [m26, ql26a]
theorem ok26 (J : Y62) (G : Y66) (C : Y67) (A : Y68) (a70 : Y70) (h62 : FnOk Tryd.prog 62 (F62 J)) (h66 : FnOk Tryd.prog 66 (F66 G)) (h67 : FnOk Tryd.prog 67 (F67 C)) (h68 : FnOk Tryd.prog 68 (F68 A)) (h70 : FnOk Tryd.prog 70 (F70 a70)) (a : Y26) (h : ∀ cx0 word1 size2 r, a cx0 word1 size2 = some r → (∃ N, m26 J G C A a70 N cx0 word1 size2 = some r)) : FnOk Tryd.prog 26 (F26 a) := by
 intro args Of x hx
 simp only [F26] at hx
 split at hx
 ·rename_i cx0 word1 size2
  obtain ⟨N, hN⟩ := h _ _ _ _ hx
  refine liftedQ (L := [(62, F62 J), (66, F66 G), (67, F67 C), (68, F68 A), (70, F70 a70)]) (rc := (fun i => ([(9, [some (.arr 0 (.sl (.int .i64)))])] : List (Nat × List (Option DT))).lookup i)) (fz := nfz) (fn := Tryd.f26) (by kernel_rfl) (by kernel_rfl) (by kernel_rfl) (by kernel_rfl) rfl ?_ coalSeq_ok ((k26 J G C A a70 N _ _ _).trans hN) ?_
  ·intro p hp; simp only [List.mem_cons, List.not_mem_nil, or_false] at hp; rcases hp with rfl | rfl | rfl | rfl | rfl
   ·exact h62
   ·exact h66
   ·exact h67
   ·exact h68
   ·exact h70
  ·intro l o hd
   simp only [dec26] at hd
   split at hd
   ·obtain rfl := oij hd; exact ⟨rfl, rfl⟩
   ·cases hd
 ·cases hx
def E28 (a26 : Y26) (U : Y73) (a74c : Y74c) (want0 : List Int) (want1 : Int) : Env := mkEw TI TY [(26, F26 a26), (73, F73 U), (74, F74c a74c)] nrc nfz (fun i => ([] : List (Nat × Nat)).lookup i)
noncomputable def c28 : Code := bodyOf Tryd.f28
def nm28_0 : Norm := ⟨[8, 10, 33, 34, 35], [31], [], []⟩
def nm28_1 : Norm := ⟨[8, 45], [45], [(.slot 13, 1013, .int .i64)], []⟩
def lv28 : Nat → Option Norm := norms [(8, nm28_0), (14, nm28_1)]
def en28 : End := ⟨[(62, .sl (.int .i64))], ⟨[62, 63], [], [], []⟩⟩
def dec28 (want0 : List Int) (want1 : Int) (l : List TV) (o : List (Nat × TO)) : Option Unit := match l, o with | [.dv (.sl (.int .i64)) x0, .dv (.int .i64) x1], [] => chk (decide (x0 = want0) && decide (x1 = want1)) (some ()) | _, _ => none
def Sl28b (r1 : LL × Int) (out13_b : List Int) (o45_b : Wm0T2) : TS := ⟨slots 62 [(8, .dv (.sl (.sl (.int .i64))) r1.1), (13, .row 1013), (45, .row 45)], [(1013, .row (.int .i64) out13_b), (45, .iter (.int .i64) (.int .i64) o45_b none)]⟩
def Sl28a (r1 : LL × Int) (r2 : List Int) (t35_a : Int) (o31_a : Wm0T2) : TS := ⟨slots 62 [(8, .dv (.sl (.sl (.int .i64))) r1.1), (10, .row 31), (33, .dv (.sl (.int .i64)) r2), (34, .dv (.int .i64) (r2.length : Int)), (35, .dv (.int .i64) t35_a)], [(31, .map (.int .i64) (.int .i64) o31_a)]⟩
noncomputable def K28_0 (a26 : Y26) (U : Y73) (a74c : Y74c) (want0 : List Int) (want1 : Int) (N : Nat) : Kont (Unit) := kont (E28 a26 U a74c want0 want1) lv28 N c28 [1, 1, 1, 1, 0, 1, 0] (fin TI en28 (resOf Tryd.f28) (dec28 want0 want1))
noncomputable def R28_0 (a26 : Y26) (U : Y73) (a74c : Y74c) (want0 : List Int) (want1 : Int) (N : Nat) (m : Nat) : TS → Option (Unit) := loopK (den (E28 a26 U a74c want0 want1) lv28 N (sub c28 [1, 1, 1, 1, 0, 1, 0, 0])) (TS.norm nm28_0) (K28_0 a26 U a74c want0 want1 N) m
noncomputable def K28_1 (a26 : Y26) (U : Y73) (a74c : Y74c) (want0 : List Int) (want1 : Int) (N : Nat) : Kont (Unit) := kont (E28 a26 U a74c want0 want1) lv28 N c28 [1, 1, 1, 1, 1, 1, 0, 1, 0] (fin TI en28 (resOf Tryd.f28) (dec28 want0 want1))
noncomputable def R28_1 (a26 : Y26) (U : Y73) (a74c : Y74c) (want0 : List Int) (want1 : Int) (N : Nat) (m : Nat) : TS → Option (Unit) := loopK (den (E28 a26 U a74c want0 want1) lv28 N (sub c28 [1, 1, 1, 1, 1, 1, 0, 1, 0, 0])) (TS.norm nm28_1) (K28_1 a26 U a74c want0 want1 N) m
def l28b (a26 : Y26) (U : Y73) (a74c : Y74c) (want0 : List Int) (want1 : Int) (N : Nat) (r1 : LL × Int) : Nat → (List Int) → (List (Int × Int)) → Option (Unit)
 | 0, _, _ => none
 | n + 1, out13_b, o45_b => eachK o45_b ((a74c out13_b).bind fun r5 =>
   chk (decide (r5 = want0) && decide ((0 : Int) = want1)) (some ())) (fun h3 => fun g4 =>
   cond (h3.2 == (r1.1.length : Int)) (chk (small (out13_b.length + 1) 8) ((l28b a26 U a74c want0 want1 N r1 n (out13_b ++ ([h3.1] : List Int)) g4)))
   ((l28b a26 U a74c want0 want1 N r1 n out13_b g4)))
theorem wl28b (a26 : Y26) (U : Y73) (a74c : Y74c) (want0 : List Int) (want1 : Int) (N : Nat) (r1 : LL × Int) (m : Nat) (out13_b : List Int) (o45_b : Wm0T2) : R28_1 a26 U a74c want0 want1 N (m + 1) (Sl28b r1 out13_b o45_b) = eachK o45_b ((a74c out13_b).bind fun r5 =>
   chk (decide (r5 = want0) && decide ((0 : Int) = want1)) (some ())) (fun h3 => fun g4 =>
   cond (h3.2 == (r1.1.length : Int)) (chk (small (out13_b.length + 1) 8) ((R28_1 a26 U a74c want0 want1 N m (Sl28b r1 (out13_b ++ ([h3.1] : List Int)) g4))))
   ((R28_1 a26 U a74c want0 want1 N m (Sl28b r1 out13_b g4)))) := by kernel_rfl
theorem ql28b (a26 : Y26) (U : Y73) (a74c : Y74c) (want0 : List Int) (want1 : Int) (N : Nat) (r1 : LL × Int) : ∀ (m : Nat) (out13_b : List Int) (o45_b : Wm0T2), R28_1 a26 U a74c want0 want1 N m (Sl28b r1 out13_b o45_b) = l28b a26 U a74c want0 want1 N r1 m out13_b o45_b
        | 0, _, _ => rfl
        | m + 1, out13_b, o45_b => by rw [wl28b]; simp only [l28b, ql28b a26 U a74c want0 want1 N r1 m]
def l28a (a26 : Y26) (U : Y73) (a74c : Y74c) (want0 : List Int) (want1 : Int) (N : Nat) (r1 : LL × Int) (r2 : List Int) : Nat → Int → (List (Int × Int)) → Option (Unit)
 | 0, _, _ => none
 | n + 1, t35_a, o31_a => cond (decide (t35_a < (r2.length : Int))) (chk (decide (0 ≤ t35_a ∧ t35_a < (r2.length : Int))) ((l28a a26 U a74c want0 want1 N r1 r2 n (w64 (t35_a + 1)) (mput (kt := .int .i64) (vt := .int .i64) o31_a (r2.getD t35_a.toNat 0) (w64 (((mget (kt := .int .i64) (vt := .int .i64) o31_a (r2.getD t35_a.toNat 0)).getD (0 : Int)) + 1))))))
   ((l28b a26 U a74c want0 want1 N r1 N ([] : List Int) o31_a))
theorem wl28a (a26 : Y26) (U : Y73) (a74c : Y74c) (want0 : List Int) (want1 : Int) (N : Nat) (r1 : LL × Int) (r2 : List Int) (m : Nat) (t35_a : Int) (o31_a : Wm0T2) : R28_0 a26 U a74c want0 want1 N (m + 1) (Sl28a r1 r2 t35_a o31_a) = cond (decide (t35_a < (r2.length : Int))) (chk (decide (0 ≤ t35_a ∧ t35_a < (r2.length : Int))) ((R28_0 a26 U a74c want0 want1 N m (Sl28a r1 r2 (w64 (t35_a + 1)) (mput (kt := .int .i64) (vt := .int .i64) o31_a (r2.getD t35_a.toNat 0) (w64 (((mget (kt := .int .i64) (vt := .int .i64) o31_a (r2.getD t35_a.toNat 0)).getD (0 : Int)) + 1)))))))
   ((R28_1 a26 U a74c want0 want1 N N (Sl28b r1 ([] : List Int) o31_a))) := by kernel_rfl
theorem ql28a (a26 : Y26) (U : Y73) (a74c : Y74c) (want0 : List Int) (want1 : Int) (N : Nat) (r1 : LL × Int) (r2 : List Int) : ∀ (m : Nat) (t35_a : Int) (o31_a : Wm0T2), R28_0 a26 U a74c want0 want1 N m (Sl28a r1 r2 t35_a o31_a) = l28a a26 U a74c want0 want1 N r1 r2 m t35_a o31_a
        | 0, _, _ => rfl
        | m + 1, t35_a, o31_a => by rw [wl28a]; simp only [l28a, ql28b, ql28a a26 U a74c want0 want1 N r1 r2 m]
def m28 (a26 : Y26) (U : Y73) (a74c : Y74c) (want0 : List Int) (want1 : Int) (N : Nat) (cx0 : Int × LL × Unit) (word1 : List Int) (size2 : Int) : Option (Unit) :=
   (a26 cx0 word1 size2).bind fun r1 =>
   cond (r1.2 != (0 : Int)) (chk (decide (([] : List Int) = want0) && decide (r1.2 = want1)) (some ()))
   (cond ((r1.1.length : Int) == (0 : Int)) (chk (decide (([] : List Int) = want0) && decide ((14 : Int) = want1)) (some ()))
   ((U r1.1).bind fun r2 =>
   (l28a a26 U a74c want0 want1 N r1 r2 N (0 : Int) ([] : List (Int × Int)))))
theorem wm28 (a26 : Y26) (U : Y73) (a74c : Y74c) (want0 : List Int) (want1 : Int) (N : Nat) (cx0 : Int × LL × Unit) (word1 : List Int) (size2 : Int) : callF (E28 a26 U a74c want0 want1) lv28 N en28 c28 (resOf Tryd.f28) 59 [.dv (.pair (.int .i64) (.pair (.sl (.sl (.int .i64))) (.unit))) cx0, .dv (.sl (.int .i64)) word1, .dv (.int .i64) size2] [] (dec28 want0 want1) = (a26 cx0 word1 size2).bind fun r1 =>
   cond (r1.2 != (0 : Int)) (chk (decide (([] : List Int) = want0) && decide (r1.2 = want1)) (some ()))
   (cond ((r1.1.length : Int) == (0 : Int)) (chk (decide (([] : List Int) = want0) && decide ((14 : Int) = want1)) (some ()))
   ((U r1.1).bind fun r2 =>
   (R28_0 a26 U a74c want0 want1 N N (Sl28a r1 r2 (0 : Int) ([] : List (Int × Int)))))) := by kernel_rfl
theorem k28 (a26 : Y26) (U : Y73) (a74c : Y74c) (want0 : List Int) (want1 : Int) (N : Nat) (cx0 : Int × LL × Unit) (word1 : List Int) (size2 : Int) : callF (E28 a26 U a74c want0 want1) lv28 N en28 c28 (resOf Tryd.f28) 59 [.dv (.pair (.int .i64) (.pair (.sl (.sl (.int .i64))) (.unit))) cx0, .dv (.sl (.int .i64)) word1, .dv (.int .i64) size2] [] (dec28 want0 want1) = m28 a26 U a74c want0 want1 N cx0 word1 size2 := by rw [wm28]; simp only [m28, ql28a]
theorem ok28 (a26 : Y26) (U : Y73) (a74c : Y74c) (h26 : FnOk Tryd.prog 26 (F26 a26)) (h73 : FnOk Tryd.prog 73 (F73 U)) (h74c : FnOk Tryd.prog 74 (F74c a74c)) (a : Y28) (h : ∀ cx0 word1 size2 r, a cx0 word1 size2 = some r → ∃ N, m28 a26 U a74c r.1 r.2 N cx0 word1 size2 = some ()) : FnOk Tryd.prog 28 (F28 a) := by
 intro args Of r hx
 simp only [F28] at hx
 split at hx
 ·rename_i cx0 word1 size2
  obtain ⟨N, hN⟩ := h _ _ _ _ hx
  refine liftedW (L := [(26, F26 a26), (73, F73 U), (74, F74c a74c)]) (rc := nrc) (fz := nfz) (tw := fun i => ([] : List (Nat × Nat)).lookup i) (fn := Tryd.f28) (by kernel_rfl) (by kernel_rfl) (by kernel_rfl) (by kernel_rfl) rfl ?_ ((k28 a26 U a74c r.1 r.2 N _ _ _).trans hN) ?_
  ·intro p hp; simp only [List.mem_cons, List.not_mem_nil, or_false] at hp; rcases hp with rfl | rfl | rfl
   ·exact h26
   ·exact h73
   ·exact h74c
  ·intro l o hd
   simp only [dec28] at hd
   split at hd
   ·have hq := (chk_some hd).1
    simp only [bae, dtq] at hq
    obtain ⟨rfl, rfl⟩ := hq
    exact ⟨rfl, rfl⟩
   ·cases hd
 ·cases hx
def E30 (H : Y52) (Q : Y53) (G : Y66) : Env := mkE TI TY [(52, F52 H), (53, F53 Q), (66, F66 G)] nrc nfz
noncomputable def c30 : Code := bodyOf Tryd.f30
def nm30_0 : Norm := ⟨[1, 8, 22, 23, 24], [], [(.slot 7, 1007, .int .i64)], []⟩
def lv30 : Nat → Option Norm := norms [(7, nm30_0)]
def en30 : End := ⟨[(45, .sl (.int .i64))], ⟨[45, 46], [], [], []⟩⟩
def dec30 (l : List TV) (o : List (Nat × TO)) : Option (List Int × Int) := match l, o with | [.dv (.sl (.int .i64)) x0, .dv (.int .i64) x1], [] => some (x0, x1) | _, _ => none
def Sl30a (cx0 : Int × LL × Unit) (word1 : List Int) (least8_a : Int) (t24_a : Int) (out7_a : List Int) : TS := ⟨slots 45 [(1, .dv (.sl (.int .i64)) word1), (7, .row 1007), (8, .dv (.int .i64) least8_a), (22, .dv (.sl (.sl (.int .i64))) cx0.2.1), (23, .dv (.int .i64) (cx0.2.1.length : Int)), (24, .dv (.int .i64) t24_a)], [(1007, .row (.int .i64) out7_a)]⟩
noncomputable def K30_0 (H : Y52) (Q : Y53) (G : Y66) (N : Nat) : Kont (List Int × Int) := kont (E30 H Q G) lv30 N c30 [1, 1, 1, 1, 0, 1, 0] (fin TI en30 (resOf Tryd.f30) dec30)
noncomputable def R30_0 (H : Y52) (Q : Y53) (G : Y66) (N : Nat) (m : Nat) : TS → Option (List Int × Int) := loopK (den (E30 H Q G) lv30 N (sub c30 [1, 1, 1, 1, 0, 1, 0, 0])) (TS.norm nm30_0) (K30_0 H Q G N) m
def l30a (H : Y52) (Q : Y53) (G : Y66) (N : Nat) (cx0 : Int × LL × Unit) (word1 : List Int) : Nat → Int → Int → (List Int) → Option (List Int × Int)
 | 0, _, _, _ => none
 | n + 1, least8_a, t24_a, out7_a => cond (decide (t24_a < (cx0.2.1.length : Int))) (chk (decide (0 ≤ t24_a ∧ t24_a < (cx0.2.1.length : Int))) ((Q (cx0.2.1.getD t24_a.toNat ([] : List Int)) word1).bind fun r3 =>
   cond (decide (r3 < least8_a)) (cond (r3 == r3) ((l30a H Q G N cx0 word1 n r3 (w64 (t24_a + 1)) ([t24_a] : List Int)))
   ((l30a H Q G N cx0 word1 n r3 (w64 (t24_a + 1)) ([] : List Int))))
   (cond (r3 == least8_a) (chk (small (out7_a.length + 1) 8) ((l30a H Q G N cx0 word1 n least8_a (w64 (t24_a + 1)) (out7_a ++ ([t24_a] : List Int)))))
   ((l30a H Q G N cx0 word1 n least8_a (w64 (t24_a + 1)) out7_a)))))
   (some (out7_a, (0 : Int)))
theorem wl30a (H : Y52) (Q : Y53) (G : Y66) (N : Nat) (cx0 : Int × LL × Unit) (word1 : List Int) (m : Nat) (least8_a : Int) (t24_a : Int) (out7_a : List Int) : R30_0 H Q G N (m + 1) (Sl30a cx0 word1 least8_a t24_a out7_a) = cond (decide (t24_a < (cx0.2.1.length : Int))) (chk (decide (0 ≤ t24_a ∧ t24_a < (cx0.2.1.length : Int))) ((Q (cx0.2.1.getD t24_a.toNat ([] : List Int)) word1).bind fun r3 =>
   cond (decide (r3 < least8_a)) (cond (r3 == r3) ((R30_0 H Q G N m (Sl30a cx0 word1 r3 (w64 (t24_a + 1)) ([t24_a] : List Int))))
   ((R30_0 H Q G N m (Sl30a cx0 word1 r3 (w64 (t24_a + 1)) ([] : List Int)))))
   (cond (r3 == least8_a) (chk (small (out7_a.length + 1) 8) ((R30_0 H Q G N m (Sl30a cx0 word1 least8_a (w64 (t24_a + 1)) (out7_a ++ ([t24_a] : List Int))))))
   ((R30_0 H Q G N m (Sl30a cx0 word1 least8_a (w64 (t24_a + 1)) out7_a))))))
   (some (out7_a, (0 : Int))) := by kernel_rfl
theorem ql30a (H : Y52) (Q : Y53) (G : Y66) (N : Nat) (cx0 : Int × LL × Unit) (word1 : List Int) : ∀ (m : Nat) (least8_a : Int) (t24_a : Int) (out7_a : List Int), R30_0 H Q G N m (Sl30a cx0 word1 least8_a t24_a out7_a) = l30a H Q G N cx0 word1 m least8_a t24_a out7_a
        | 0, _, _, _ => rfl
        | m + 1, least8_a, t24_a, out7_a => by rw [wl30a]; simp only [l30a, ql30a H Q G N cx0 word1 m]
def m30 (H : Y52) (Q : Y53) (G : Y66) (N : Nat) (cx0 : Int × LL × Unit) (word1 : List Int) : Option (List Int × Int) :=
   (G cx0 word1).bind fun r1 =>
   cond (r1 != (0 : Int)) (some (([] : List Int), r1))
   ((H cx0).bind fun r2 =>
   (l30a H Q G N cx0 word1 N (w64 (r2 + 1)) (0 : Int) ([] : List Int)))
theorem wm30 (H : Y52) (Q : Y53) (G : Y66) (N : Nat) (cx0 : Int × LL × Unit) (word1 : List Int) : callF (E30 H Q G) lv30 N en30 c30 (resOf Tryd.f30) 43 [.dv (.pair (.int .i64) (.pair (.sl (.sl (.int .i64))) (.unit))) cx0, .dv (.sl (.int .i64)) word1] [] dec30 = (G cx0 word1).bind fun r1 =>
   cond (r1 != (0 : Int)) (some (([] : List Int), r1))
   ((H cx0).bind fun r2 =>
   (R30_0 H Q G N N (Sl30a cx0 word1 (w64 (r2 + 1)) (0 : Int) ([] : List Int)))) := by kernel_rfl
theorem k30 (H : Y52) (Q : Y53) (G : Y66) (N : Nat) (cx0 : Int × LL × Unit) (word1 : List Int) : callF (E30 H Q G) lv30 N en30 c30 (resOf Tryd.f30) 43 [.dv (.pair (.int .i64) (.pair (.sl (.sl (.int .i64))) (.unit))) cx0, .dv (.sl (.int .i64)) word1] [] dec30 = m30 H Q G N cx0 word1 := by rw [wm30]; simp only [m30, ql30a]
theorem ok30 (H : Y52) (Q : Y53) (G : Y66) (h52 : FnOk Tryd.prog 52 (F52 H)) (h53 : FnOk Tryd.prog 53 (F53 Q)) (h66 : FnOk Tryd.prog 66 (F66 G)) (a : Y30) (h : ∀ cx0 word1 r, a cx0 word1 = some r → (∃ N, m30 H Q G N cx0 word1 = some r)) : FnOk Tryd.prog 30 (F30 a) := by
 intro args Of x hx
 simp only [F30] at hx
 split at hx
 ·rename_i cx0 word1
  obtain ⟨N, hN⟩ := h _ _ _ hx
  refine lifted (L := [(52, F52 H), (53, F53 Q), (66, F66 G)]) (rc := nrc) (fz := nfz) (fn := Tryd.f30) (by kernel_rfl) (by kernel_rfl) (by kernel_rfl) (by kernel_rfl) rfl ?_ ((k30 H Q G N _ _).trans hN) ?_
  ·intro p hp; simp only [List.mem_cons, List.not_mem_nil, or_false] at hp; rcases hp with rfl | rfl | rfl
   ·exact h52
   ·exact h53
   ·exact h66
  ·intro l o hd
   simp only [dec30] at hd
   split at hd
   ·obtain rfl := oij hd; exact ⟨rfl, rfl⟩
   ·cases hd
 ·cases hx
def E32 : Env := mkE TI TY [] nrc nfz
noncomputable def c32 : Code := bodyOf Tryd.f32
def nm32_0 : Norm := ⟨[0, 1, 5], [], [], []⟩
def lv32 : Nat → Option Norm := norms [(4, nm32_0)]
def en32 : End := ⟨[], ⟨[26], [], [], []⟩⟩
def dec32 (l : List TV) (o : List (Nat × TO)) : Option (Bool) := match l, o with | [.dv (.bool) x0], [] => some (x0) | _, _ => none
def Sl32a (ax0 : List Int) (b1 : List Int) (i5_a : Int) : TS := ⟨slots 26 [(0, .dv (.sl (.int .i64)) ax0), (1, .dv (.sl (.int .i64)) b1), (5, .dv (.int .i64) i5_a)], []⟩
noncomputable def K32_0 (N : Nat) : Kont (Bool) := kont (E32) lv32 N c32 [1, 1, 0, 1, 0] (fin TI en32 (resOf Tryd.f32) dec32)
noncomputable def R32_0 (N : Nat) (m : Nat) : TS → Option (Bool) := loopK (den (E32) lv32 N (sub c32 [1, 1, 0, 1, 0, 0])) (TS.norm nm32_0) (K32_0 N) m
def l32a (N : Nat) (ax0 : List Int) (b1 : List Int) : Nat → Int → Option (Bool)
 | 0, _ => none
 | n + 1, i5_a => cond (decide (i5_a < (ax0.length : Int))) (chk (decide (0 ≤ i5_a ∧ i5_a < (ax0.length : Int))) (chk (decide (0 ≤ i5_a ∧ i5_a < (b1.length : Int))) (cond ((ax0.getD i5_a.toNat 0) != (b1.getD i5_a.toNat 0)) (some false)
   ((l32a N ax0 b1 n (w64 (i5_a + 1)))))))
   (some true)
theorem wl32a (N : Nat) (ax0 : List Int) (b1 : List Int) (m : Nat) (i5_a : Int) : R32_0 N (m + 1) (Sl32a ax0 b1 i5_a) = cond (decide (i5_a < (ax0.length : Int))) (chk (decide (0 ≤ i5_a ∧ i5_a < (ax0.length : Int))) (chk (decide (0 ≤ i5_a ∧ i5_a < (b1.length : Int))) (cond ((ax0.getD i5_a.toNat 0) != (b1.getD i5_a.toNat 0)) (some false)
   ((R32_0 N m (Sl32a ax0 b1 (w64 (i5_a + 1))))))))
   (some true) := by kernel_rfl
theorem ql32a (N : Nat) (ax0 : List Int) (b1 : List Int) : ∀ (m : Nat) (i5_a : Int), R32_0 N m (Sl32a ax0 b1 i5_a) = l32a N ax0 b1 m i5_a
        | 0, _ => rfl
        | m + 1, i5_a => by rw [wl32a]; simp only [l32a, ql32a N ax0 b1 m]
def m32 (N : Nat) (ax0 : List Int) (b1 : List Int) : Option (Bool) :=
   cond ((ax0.length : Int) != (b1.length : Int)) (some false)
   ((l32a N ax0 b1 N (0 : Int)))
theorem wm32 (N : Nat) (ax0 : List Int) (b1 : List Int) : callF (E32) lv32 N en32 c32 (resOf Tryd.f32) 24 [.dv (.sl (.int .i64)) ax0, .dv (.sl (.int .i64)) b1] [] dec32 = cond ((ax0.length : Int) != (b1.length : Int)) (some false)
   ((R32_0 N N (Sl32a ax0 b1 (0 : Int)))) := by kernel_rfl
theorem k32 (N : Nat) (ax0 : List Int) (b1 : List Int) : callF (E32) lv32 N en32 c32 (resOf Tryd.f32) 24 [.dv (.sl (.int .i64)) ax0, .dv (.sl (.int .i64)) b1] [] dec32 = m32 N ax0 b1 := by rw [wm32]; simp only [m32, ql32a]
theorem ok32 (a : Y32) (h : ∀ ax0 b1 r, a ax0 b1 = some r → (∃ N, m32 N ax0 b1 = some r)) : FnOk Tryd.prog 32 (F32 a) := by
 intro args Of x hx
 simp only [F32] at hx
 split at hx
 ·rename_i ax0 b1
  obtain ⟨N, hN⟩ := h _ _ _ hx
  refine lifted (L := []) (rc := nrc) (fz := nfz) (fn := Tryd.f32) (by kernel_rfl) (by kernel_rfl) (by kernel_rfl) (by kernel_rfl) rfl ?_ ((k32 N _ _).trans hN) ?_
  ·intro p hp; cases hp
  ·intro l o hd
   simp only [dec32] at hd
   split at hd
   ·obtain rfl := oij hd; exact ⟨rfl, rfl⟩
   ·cases hd
 ·cases hx
def E33 (a32 : Y32) : Env := mkE TI TY [(32, F32 a32)] nrc nfz
noncomputable def c33 : Code := bodyOf Tryd.f33
def nm33_0 : Norm := ⟨[0, 1, 5], [], [], []⟩
def lv33 : Nat → Option Norm := norms [(4, nm33_0)]
def en33 : End := ⟨[], ⟨[27], [], [], []⟩⟩
def dec33 (l : List TV) (o : List (Nat × TO)) : Option (Bool) := match l, o with | [.dv (.bool) x0], [] => some (x0) | _, _ => none
def Sl33a (ax0 : LL) (b1 : LL) (i5_a : Int) : TS := ⟨slots 27 [(0, .dv (.sl (.sl (.int .i64))) ax0), (1, .dv (.sl (.sl (.int .i64))) b1), (5, .dv (.int .i64) i5_a)], []⟩
noncomputable def K33_0 (a32 : Y32) (N : Nat) : Kont (Bool) := kont (E33 a32) lv33 N c33 [1, 1, 0, 1, 0] (fin TI en33 (resOf Tryd.f33) dec33)
noncomputable def R33_0 (a32 : Y32) (N : Nat) (m : Nat) : TS → Option (Bool) := loopK (den (E33 a32) lv33 N (sub c33 [1, 1, 0, 1, 0, 0])) (TS.norm nm33_0) (K33_0 a32 N) m
def l33a (a32 : Y32) (N : Nat) (ax0 : LL) (b1 : LL) : Nat → Int → Option (Bool)
 | 0, _ => none
 | n + 1, i5_a => cond (decide (i5_a < (ax0.length : Int))) (chk (decide (0 ≤ i5_a ∧ i5_a < (ax0.length : Int))) (chk (decide (0 ≤ i5_a ∧ i5_a < (b1.length : Int))) ((a32 (ax0.getD i5_a.toNat ([] : List Int)) (b1.getD i5_a.toNat ([] : List Int))).bind fun r1 =>
   cond (!r1) (some false)
   ((l33a a32 N ax0 b1 n (w64 (i5_a + 1)))))))
   (some true)
theorem wl33a (a32 : Y32) (N : Nat) (ax0 : LL) (b1 : LL) (m : Nat) (i5_a : Int) : R33_0 a32 N (m + 1) (Sl33a ax0 b1 i5_a) = cond (decide (i5_a < (ax0.length : Int))) (chk (decide (0 ≤ i5_a ∧ i5_a < (ax0.length : Int))) (chk (decide (0 ≤ i5_a ∧ i5_a < (b1.length : Int))) ((a32 (ax0.getD i5_a.toNat ([] : List Int)) (b1.getD i5_a.toNat ([] : List Int))).bind fun r1 =>
   cond (!r1) (some false)
   ((R33_0 a32 N m (Sl33a ax0 b1 (w64 (i5_a + 1))))))))
   (some true) := by kernel_rfl
theorem ql33a (a32 : Y32) (N : Nat) (ax0 : LL) (b1 : LL) : ∀ (m : Nat) (i5_a : Int), R33_0 a32 N m (Sl33a ax0 b1 i5_a) = l33a a32 N ax0 b1 m i5_a
        | 0, _ => rfl
        | m + 1, i5_a => by rw [wl33a]; simp only [l33a, ql33a a32 N ax0 b1 m]
def m33 (a32 : Y32) (N : Nat) (ax0 : LL) (b1 : LL) : Option (Bool) :=
   cond ((ax0.length : Int) != (b1.length : Int)) (some false)
   ((l33a a32 N ax0 b1 N (0 : Int)))
theorem wm33 (a32 : Y32) (N : Nat) (ax0 : LL) (b1 : LL) : callF (E33 a32) lv33 N en33 c33 (resOf Tryd.f33) 25 [.dv (.sl (.sl (.int .i64))) ax0, .dv (.sl (.sl (.int .i64))) b1] [] dec33 = cond ((ax0.length : Int) != (b1.length : Int)) (some false)
   ((R33_0 a32 N N (Sl33a ax0 b1 (0 : Int)))) := by kernel_rfl
theorem k33 (a32 : Y32) (N : Nat) (ax0 : LL) (b1 : LL) : callF (E33 a32) lv33 N en33 c33 (resOf Tryd.f33) 25 [.dv (.sl (.sl (.int .i64))) ax0, .dv (.sl (.sl (.int .i64))) b1] [] dec33 = m33 a32 N ax0 b1 := by rw [wm33]; simp only [m33, ql33a]
theorem ok33 (a32 : Y32) (h32 : FnOk Tryd.prog 32 (F32 a32)) (a : Y33) (h : ∀ ax0 b1 r, a ax0 b1 = some r → (∃ N, m33 a32 N ax0 b1 = some r)) : FnOk Tryd.prog 33 (F33 a) := by
 intro args Of x hx
 simp only [F33] at hx
 split at hx
 ·rename_i ax0 b1
  obtain ⟨N, hN⟩ := h _ _ _ hx
  refine lifted (L := [(32, F32 a32)]) (rc := nrc) (fz := nfz) (fn := Tryd.f33) (by kernel_rfl) (by kernel_rfl) (by kernel_rfl) (by kernel_rfl) rfl ?_ ((k33 a32 N _ _).trans hN) ?_
  ·intro p hp; simp only [List.mem_cons, List.not_mem_nil, or_false] at hp; rcases hp with rfl; exact h32
  ·intro l o hd
   simp only [dec33] at hd
   split at hd
   ·obtain rfl := oij hd; exact ⟨rfl, rfl⟩
   ·cases hd
 ·cases hx
def E93 : Env := mkE TI TY [] nrc nfz
noncomputable def c93 : Code := bodyOf Tryd.f93
def nm93_0 : Norm := ⟨[0, 1, 7, 8], [], [], []⟩
def lv93 : Nat → Option Norm := norms [(2, nm93_0)]
def en93 : End := ⟨[], ⟨[19], [], [], []⟩⟩
def dec93 (l : List TV) (o : List (Nat × TO)) : Option (Int) := match l, o with | [.dv (.int .i64) x0], [] => some (x0) | _, _ => none
def Sl93a (s0 : List Int) (v1 : Int) (t8_a : Int) : TS := ⟨slots 19 [(0, .dv (.sl (.int .i64)) s0), (1, .dv (.int .i64) v1), (7, .dv (.int .i64) (s0.length : Int)), (8, .dv (.int .i64) t8_a)], []⟩
noncomputable def K93_0 (N : Nat) : Kont (Int) := kont (E93) lv93 N c93 [1, 0, 1, 0] (fin TI en93 (resOf Tryd.f93) dec93)
noncomputable def R93_0 (N : Nat) (m : Nat) : TS → Option (Int) := loopK (den (E93) lv93 N (sub c93 [1, 0, 1, 0, 0])) (TS.norm nm93_0) (K93_0 N) m
def l93a (N : Nat) (s0 : List Int) (v1 : Int) : Nat → Int → Option (Int)
 | 0, _ => none
 | n + 1, t8_a => cond (decide (t8_a < (s0.length : Int))) (chk (decide (0 ≤ t8_a ∧ t8_a < (s0.length : Int))) (cond (v1 == (s0.getD t8_a.toNat 0)) (some t8_a)
   ((l93a N s0 v1 n (w64 (t8_a + 1))))))
   (some (-1 : Int))
theorem wl93a (N : Nat) (s0 : List Int) (v1 : Int) (m : Nat) (t8_a : Int) : R93_0 N (m + 1) (Sl93a s0 v1 t8_a) = cond (decide (t8_a < (s0.length : Int))) (chk (decide (0 ≤ t8_a ∧ t8_a < (s0.length : Int))) (cond (v1 == (s0.getD t8_a.toNat 0)) (some t8_a)
   ((R93_0 N m (Sl93a s0 v1 (w64 (t8_a + 1)))))))
   (some (-1 : Int)) := by kernel_rfl
theorem ql93a (N : Nat) (s0 : List Int) (v1 : Int) : ∀ (m : Nat) (t8_a : Int), R93_0 N m (Sl93a s0 v1 t8_a) = l93a N s0 v1 m t8_a
        | 0, _ => rfl
        | m + 1, t8_a => by rw [wl93a]; simp only [l93a, ql93a N s0 v1 m]
def m93 (N : Nat) (s0 : List Int) (v1 : Int) : Option (Int) :=
   (l93a N s0 v1 N (0 : Int))
theorem wm93 (N : Nat) (s0 : List Int) (v1 : Int) : callF (E93) lv93 N en93 c93 (resOf Tryd.f93) 17 [.dv (.sl (.int .i64)) s0, .dv (.int .i64) v1] [] dec93 = (R93_0 N N (Sl93a s0 v1 (0 : Int))) := by kernel_rfl
theorem k93 (N : Nat) (s0 : List Int) (v1 : Int) : callF (E93) lv93 N en93 c93 (resOf Tryd.f93) 17 [.dv (.sl (.int .i64)) s0, .dv (.int .i64) v1] [] dec93 = m93 N s0 v1 := by rw [wm93]; simp only [m93, ql93a]
theorem ok93 (a : Y93) (h : ∀ s0 v1 r, a s0 v1 = some r → (∃ N, m93 N s0 v1 = some r)) : FnOk Tryd.prog 93 (F93 a) := by
 intro args Of x hx
 simp only [F93] at hx
 split at hx
 ·rename_i s0 v1
  obtain ⟨N, hN⟩ := h _ _ _ hx
  refine lifted (L := []) (rc := nrc) (fz := nfz) (fn := Tryd.f93) (by kernel_rfl) (by kernel_rfl) (by kernel_rfl) (by kernel_rfl) rfl ?_ ((k93 N _ _).trans hN) ?_
  ·intro p hp; cases hp
  ·intro l o hd
   simp only [dec93] at hd
   split at hd
   ·obtain rfl := oij hd; exact ⟨rfl, rfl⟩
   ·cases hd
 ·cases hx
def E75 (a93 : Y93) : Env := mkE TI TY [(93, F93 a93)] nrc nfz
noncomputable def c75 : Code := bodyOf Tryd.f75
def lv75 : Nat → Option Norm := norms []
def en75 : End := ⟨[], ⟨[9], [], [], []⟩⟩
def dec75 (l : List TV) (o : List (Nat × TO)) : Option (Bool) := match l, o with | [.dv (.bool) x0], [] => some (x0) | _, _ => none
def m75 (a93 : Y93) (N : Nat) (s0 : List Int) (v1 : Int) : Option (Bool) :=
   (a93 s0 v1).bind fun r1 =>
   some (decide (r1 ≥ (0 : Int)))
theorem k75 (a93 : Y93) (N : Nat) (s0 : List Int) (v1 : Int) : callF (E75 a93) lv75 N en75 c75 (resOf Tryd.f75) 7 [.dv (.sl (.int .i64)) s0, .dv (.int .i64) v1] [] dec75 = m75 a93 N s0 v1 := by kernel_rfl
theorem ok75 (a93 : Y93) (h93 : FnOk Tryd.prog 93 (F93 a93)) (a : Y75) (h : ∀ s0 v1 r, a s0 v1 = some r → (∃ N, m75 a93 N s0 v1 = some r)) : FnOk Tryd.prog 75 (F75 a) := by
 intro args Of x hx
 simp only [F75] at hx
 split at hx
 ·rename_i s0 v1
  obtain ⟨N, hN⟩ := h _ _ _ hx
  refine lifted (L := [(93, F93 a93)]) (rc := nrc) (fz := nfz) (fn := Tryd.f75) (by kernel_rfl) (by kernel_rfl) (by kernel_rfl) (by kernel_rfl) rfl ?_ ((k75 a93 N _ _).trans hN) ?_
  ·intro p hp; simp only [List.mem_cons, List.not_mem_nil, or_false] at hp; rcases hp with rfl; exact h93
  ·intro l o hd
   simp only [dec75] at hd
   split at hd
   ·obtain rfl := oij hd; exact ⟨rfl, rfl⟩
   ·cases hd
 ·cases hx
def E34 (B : Y22) (D : Y59) (J : Y62) (C : Y67) (A : Y68) (W : Y75) : Env := mkEq TI TY [(22, F22 B), (59, F59 D), (62, F62 J), (67, F67 C), (68, F68 A), (75, F75 W)] (fun i => ([(4, [some (.nsl (.int .i64))])] : List (Nat × List (Option DT))).lookup i) nfz coalSeq
noncomputable def c34 : Code := bodyOf Tryd.f34
def nm34_0 : Norm := ⟨[2, 4, 5, 6, 22], [2, 4, 5], [], []⟩
def nm34_1 : Norm := ⟨[2, 4, 5, 7, 34, 35, 36], [2, 4, 5], [], []⟩
def lv34 : Nat → Option Norm := norms [(8, nm34_0), (10, nm34_1)]
def en34 : End := ⟨[(59, .sl (.int .i64))], ⟨[59, 60, 61], [], [], []⟩⟩
def dec34 (l : List TV) (o : List (Nat × TO)) : Option (List Int × Int × Int) := match l, o with | [.dv (.sl (.int .i64)) x0, .dv (.int .i64) x1, .dv (.int .i64) x2], [] => some (x0, x1, x2) | _, _ => none
def Sl34b (cx0 : Int × LL × Unit) (o4_af0 : Option (List Int)) (o5_af0 : Int) (e4a : List Int) (t36_b : Int) : TS := ⟨slots 59 [(2, .ptr 2 0 []), (4, .ptr 4 0 [0]), (5, .ptr 5 0 [0]), (7, .dv (.sl (.int .i64)) e4a), (34, .dv (.sl (.sl (.int .i64))) cx0.2.1), (35, .dv (.int .i64) (cx0.2.1.length : Int)), (36, .dv (.int .i64) t36_b)], [(2, .row (.pair (.int .i64) (.pair (.sl (.sl (.int .i64))) (.unit))) ([cx0] : List Cd)), (4, .rcd [.dv (.nsl (.int .i64)) o4_af0]), (5, .rcd [.dv (.int .i64) o5_af0])]⟩
def Sl34a (cx0 : Int × LL × Unit) (r1 : Int) (r3 : Int × Int × LL × Unit) (o4_af0 : Option (List Int)) (o5_af0 : Int) : TS := ⟨slots 59 [(2, .ptr 2 0 []), (4, .ptr 4 0 [0]), (5, .ptr 5 0 [0]), (6, .dv (.int .i64) r1), (22, .fn 87 0 2 fun i => ([.el (.int .i64) r3.1 [], .el (.pair (.int .i64) (.pair (.sl (.sl (.int .i64))) (.unit))) r3.2 []] : List TV).getD i .any)], [(2, .row (.pair (.int .i64) (.pair (.sl (.sl (.int .i64))) (.unit))) ([cx0] : List Cd)), (4, .rcd [.dv (.nsl (.int .i64)) o4_af0]), (5, .rcd [.dv (.int .i64) o5_af0])]⟩
noncomputable def K34_0 (B : Y22) (D : Y59) (J : Y62) (C : Y67) (A : Y68) (W : Y75) (N : Nat) : Kont (List Int × Int × Int) := kont (E34 B D J C A W) lv34 N c34 [1, 1, 1, 0, 1, 0] (fin TI en34 (resOf Tryd.f34) dec34)
noncomputable def R34_0 (B : Y22) (D : Y59) (J : Y62) (C : Y67) (A : Y68) (W : Y75) (N : Nat) (xs : LL) : TS → Option (List Int × Int × Int) := seqK (β := List Int) (fun x s1 K => roundK (denP (E34 B D J C A W) lv34 N (sub c34 [1, 1, 1, 0, 1, 0, 0])) (denP (E34 B D J C A W) lv34 N (sub c34 [1, 1, 1, 0, 1, 0, 1])) 23 (.dv (.sl (.int .i64)) x) s1 K) (TS.norm nm34_0) (K34_0 B D J C A W N) xs
noncomputable def K34_1 (B : Y22) (D : Y59) (J : Y62) (C : Y67) (A : Y68) (W : Y75) (N : Nat) (cx0 : Int × LL × Unit) (r1 : Int) (r3 : Int × Int × LL × Unit) (o4_af0 : Option (List Int)) (o5_af0 : Int) (T34_0 : TS → Option (List Int × Int × Int)) : Kont (List Int × Int × Int) := kontP (E34 B D J C A W) lv34 N [2, 4, 5] (sub c34 [1, 1, 1, 0, 1, 0, 1]) [0, 1, 1, 0] (kround (Sl34a cx0 r1 r3 o4_af0 o5_af0).sl (Sl34a cx0 r1 r3 o4_af0 o5_af0).ob (TS.norm nm34_0) (K34_0 B D J C A W N) T34_0)
noncomputable def R34_1 (B : Y22) (D : Y59) (J : Y62) (C : Y67) (A : Y68) (W : Y75) (N : Nat) (cx0 : Int × LL × Unit) (r1 : Int) (r3 : Int × Int × LL × Unit) (o4_af0 : Option (List Int)) (o5_af0 : Int) (T34_0 : TS → Option (List Int × Int × Int)) (m : Nat) : TS → Option (List Int × Int × Int) := loopK (denP (E34 B D J C A W) lv34 N (sub c34 [1, 1, 1, 0, 1, 0, 1, 0, 1, 1, 0, 0]) [2, 4, 5]) (TS.normP [2, 4, 5] nm34_1) (K34_1 B D J C A W N cx0 r1 r3 o4_af0 o5_af0 T34_0) m
def l34b (B : Y22) (D : Y59) (J : Y62) (C : Y67) (A : Y68) (W : Y75) (N : Nat) (cx0 : Int × LL × Unit) (o4_af0 : Option (List Int)) (o5_af0 : Int) (e4a : List Int) (l34a' : (Option (List Int)) → Int → Option (List Int × Int × Int)) : Nat → Int → Option (List Int × Int × Int)
 | 0, _ => none
 | n + 1, t36_b => cond (decide (t36_b < (cx0.2.1.length : Int))) (chk (decide (0 ≤ t36_b ∧ t36_b < (cx0.2.1.length : Int))) ((W e4a t36_b).bind fun r5 =>
   cond (!r5) ((D cx0 e4a (cx0.2.1.getD t36_b.toNat ([] : List Int))).bind fun r6 =>
   cond (r6) (chk ((decide (0 < e4a.length)) && (true)) ((A (some e4a)).bind fun r7 =>
   chk (decide (0 < r7.length)) ((l34a' (some r7) t36_b))))
   ((l34b B D J C A W N cx0 o4_af0 o5_af0 e4a l34a' n (w64 (t36_b + 1)))))
   ((l34b B D J C A W N cx0 o4_af0 o5_af0 e4a l34a' n (w64 (t36_b + 1))))))
   ((l34a' o4_af0 o5_af0))
theorem wl34b (B : Y22) (D : Y59) (J : Y62) (C : Y67) (A : Y68) (W : Y75) (N : Nat) (cx0 : Int × LL × Unit) (r1 : Int) (r3 : Int × Int × LL × Unit) (o4_af0 : Option (List Int)) (o5_af0 : Int) (e4a : List Int) (T34_0 : TS → Option (List Int × Int × Int)) (m : Nat) (t36_b : Int) : R34_1 B D J C A W N cx0 r1 r3 o4_af0 o5_af0 T34_0 (m + 1) (Sl34b cx0 o4_af0 o5_af0 e4a t36_b) = cond (decide (t36_b < (cx0.2.1.length : Int))) (chk (decide (0 ≤ t36_b ∧ t36_b < (cx0.2.1.length : Int))) ((W e4a t36_b).bind fun r5 =>
   cond (!r5) ((D cx0 e4a (cx0.2.1.getD t36_b.toNat ([] : List Int))).bind fun r6 =>
   cond (r6) (chk ((decide (0 < e4a.length)) && (true)) ((A (some e4a)).bind fun r7 =>
   chk (decide (0 < r7.length)) ((T34_0 (Sl34a cx0 r1 r3 (some r7) t36_b)))))
   ((R34_1 B D J C A W N cx0 r1 r3 o4_af0 o5_af0 T34_0 m (Sl34b cx0 o4_af0 o5_af0 e4a (w64 (t36_b + 1))))))
   ((R34_1 B D J C A W N cx0 r1 r3 o4_af0 o5_af0 T34_0 m (Sl34b cx0 o4_af0 o5_af0 e4a (w64 (t36_b + 1)))))))
   ((T34_0 (Sl34a cx0 r1 r3 o4_af0 o5_af0))) := by kernel_rfl
theorem ql34b (B : Y22) (D : Y59) (J : Y62) (C : Y67) (A : Y68) (W : Y75) (N : Nat) (cx0 : Int × LL × Unit) (r1 : Int) (r3 : Int × Int × LL × Unit) (o4_af0 : Option (List Int)) (o5_af0 : Int) (e4a : List Int) (T34_0 : TS → Option (List Int × Int × Int)) : ∀ (m : Nat) (t36_b : Int), R34_1 B D J C A W N cx0 r1 r3 o4_af0 o5_af0 T34_0 m (Sl34b cx0 o4_af0 o5_af0 e4a t36_b) = l34b B D J C A W N cx0 o4_af0 o5_af0 e4a (fun y0 y1 => T34_0 (Sl34a cx0 r1 r3 y0 y1)) m t36_b
        | 0, _ => rfl
        | m + 1, t36_b => by rw [wl34b]; simp only [l34b, ql34b B D J C A W N cx0 r1 r3 o4_af0 o5_af0 e4a T34_0 m]
def l34a (B : Y22) (D : Y59) (J : Y62) (C : Y67) (A : Y68) (W : Y75) (N : Nat) (cx0 : Int × LL × Unit) (r1 : Int) (r3 : Int × Int × LL × Unit) : LL → (Option (List Int)) → Int → Option (List Int × Int × Int)
 | [], o4_af0, o5_af0 => cond (o4_af0.isNone) (some ((none : Option (List Int)).getD [], (0 : Int), (5 : Int)))
   (some (o4_af0.getD [], o5_af0, (0 : Int)))
 | e4a :: rr, o4_af0, o5_af0 => cond (!o4_af0.isNone) (cond (decide ((e4a.length : Int) ≥ ((o4_af0.getD []).length : Int))) ((l34a B D J C A W N cx0 r1 r3 rr o4_af0 o5_af0))
   ((l34b B D J C A W N cx0 o4_af0 o5_af0 e4a (fun y0 y1 => (l34a B D J C A W N cx0 r1 r3 rr y0 y1)) N (0 : Int))))
   ((l34b B D J C A W N cx0 o4_af0 o5_af0 e4a (fun y0 y1 => (l34a B D J C A W N cx0 r1 r3 rr y0 y1)) N (0 : Int)))
theorem wl34a_0 (B : Y22) (D : Y59) (J : Y62) (C : Y67) (A : Y68) (W : Y75) (N : Nat) (cx0 : Int × LL × Unit) (r1 : Int) (r3 : Int × Int × LL × Unit) (o4_af0 : Option (List Int)) (o5_af0 : Int) : R34_0 B D J C A W N [] (Sl34a cx0 r1 r3 o4_af0 o5_af0) = cond (o4_af0.isNone) (some ((none : Option (List Int)).getD [], (0 : Int), (5 : Int)))
   (some (o4_af0.getD [], o5_af0, (0 : Int))) := by kernel_rfl
theorem wl34a_1 (B : Y22) (D : Y59) (J : Y62) (C : Y67) (A : Y68) (W : Y75) (N : Nat) (cx0 : Int × LL × Unit) (r1 : Int) (r3 : Int × Int × LL × Unit) (e4a : List Int) (rr : LL) (o4_af0 : Option (List Int)) (o5_af0 : Int) : R34_0 B D J C A W N (e4a :: rr) (Sl34a cx0 r1 r3 o4_af0 o5_af0) = cond (!o4_af0.isNone) (cond (decide ((e4a.length : Int) ≥ ((o4_af0.getD []).length : Int))) ((R34_0 B D J C A W N rr (Sl34a cx0 r1 r3 o4_af0 o5_af0)))
   ((R34_1 B D J C A W N cx0 r1 r3 o4_af0 o5_af0 (R34_0 B D J C A W N rr) N (Sl34b cx0 o4_af0 o5_af0 e4a (0 : Int)))))
   ((R34_1 B D J C A W N cx0 r1 r3 o4_af0 o5_af0 (R34_0 B D J C A W N rr) N (Sl34b cx0 o4_af0 o5_af0 e4a (0 : Int)))) := by kernel_rfl
theorem ql34a (B : Y22) (D : Y59) (J : Y62) (C : Y67) (A : Y68) (W : Y75) (N : Nat) (cx0 : Int × LL × Unit) (r1 : Int) (r3 : Int × Int × LL × Unit) : ∀ (m : LL) (o4_af0 : Option (List Int)) (o5_af0 : Int), R34_0 B D J C A W N m (Sl34a cx0 r1 r3 o4_af0 o5_af0) = l34a B D J C A W N cx0 r1 r3 m o4_af0 o5_af0
        | [], o4_af0, o5_af0 => by rw [wl34a_0]; simp only [l34a]
        | e4a :: rr, o4_af0, o5_af0 => by rw [wl34a_1]; simp only [l34a, ql34b, ql34a B D J C A W N cx0 r1 r3 rr]
def m34 (B : Y22) (D : Y59) (J : Y62) (C : Y67) (A : Y68) (W : Y75) (N : Nat) (cx0 : Int × LL × Unit) (size1 : Int) : Option (List Int × Int × Int) :=
   (B cx0).bind fun r1 =>
   cond (r1 != (0 : Int)) (some ((none : Option (List Int)).getD [], (0 : Int), r1))
   ((J (1 : Int) size1 (10 : Int)).bind fun r2 =>
   cond (!r2) (some ((none : Option (List Int)).getD [], (0 : Int), (4 : Int)))
   ((C cx0 size1).bind fun r3 =>
   chk (decide (0 ≤ r3.1 ∧ ((List.length r3.2.2.1 : Nat) : Int) * 8 ≤ 140737488355328)) ((l34a B D J C A W N cx0 r1 r3 (gr (List.length r3.2.2.1) (Int.toNat r3.1) [] 0) (none : Option (List Int)) (0 : Int)))))
theorem wm34 (B : Y22) (D : Y59) (J : Y62) (C : Y67) (A : Y68) (W : Y75) (N : Nat) (cx0 : Int × LL × Unit) (size1 : Int) : callF (E34 B D J C A W) lv34 N en34 c34 (resOf Tryd.f34) 57 [.dv (.pair (.int .i64) (.pair (.sl (.sl (.int .i64))) (.unit))) cx0, .dv (.int .i64) size1] [] dec34 = (B cx0).bind fun r1 =>
   cond (r1 != (0 : Int)) (some ((none : Option (List Int)).getD [], (0 : Int), r1))
   ((J (1 : Int) size1 (10 : Int)).bind fun r2 =>
   cond (!r2) (some ((none : Option (List Int)).getD [], (0 : Int), (4 : Int)))
   ((C cx0 size1).bind fun r3 =>
   chk (decide (0 ≤ r3.1 ∧ ((List.length r3.2.2.1 : Nat) : Int) * 8 ≤ 140737488355328)) ((R34_0 B D J C A W N (gr (List.length r3.2.2.1) (Int.toNat r3.1) [] 0) (Sl34a cx0 r1 r3 (none : Option (List Int)) (0 : Int)))))) := by kernel_rfl
theorem k34 (B : Y22) (D : Y59) (J : Y62) (C : Y67) (A : Y68) (W : Y75) (N : Nat) (cx0 : Int × LL × Unit) (size1 : Int) : callF (E34 B D J C A W) lv34 N en34 c34 (resOf Tryd.f34) 57 [.dv (.pair (.int .i64) (.pair (.sl (.sl (.int .i64))) (.unit))) cx0, .dv (.int .i64) size1] [] dec34 = m34 B D J C A W N cx0 size1 := by rw [wm34]; simp only [m34, ql34a]
theorem ok34 (B : Y22) (D : Y59) (J : Y62) (C : Y67) (A : Y68) (W : Y75) (h22 : FnOk Tryd.prog 22 (F22 B)) (h59 : FnOk Tryd.prog 59 (F59 D)) (h62 : FnOk Tryd.prog 62 (F62 J)) (h67 : FnOk Tryd.prog 67 (F67 C)) (h68 : FnOk Tryd.prog 68 (F68 A)) (h75 : FnOk Tryd.prog 75 (F75 W)) (a : Y34) (h : ∀ cx0 size1 r, a cx0 size1 = some r → (∃ N, m34 B D J C A W N cx0 size1 = some r)) : FnOk Tryd.prog 34 (F34 a) := by
 intro args Of x hx
 simp only [F34] at hx
 split at hx
 ·rename_i cx0 size1
  obtain ⟨N, hN⟩ := h _ _ _ hx
  refine liftedQ (L := [(22, F22 B), (59, F59 D), (62, F62 J), (67, F67 C), (68, F68 A), (75, F75 W)]) (rc := (fun i => ([(4, [some (.nsl (.int .i64))])] : List (Nat × List (Option DT))).lookup i)) (fz := nfz) (fn := Tryd.f34) (by kernel_rfl) (by kernel_rfl) (by kernel_rfl) (by kernel_rfl) rfl ?_ coalSeq_ok ((k34 B D J C A W N _ _).trans hN) ?_
  ·intro p hp; simp only [List.mem_cons, List.not_mem_nil, or_false] at hp; rcases hp with rfl | rfl | rfl | rfl | rfl | rfl
   ·exact h22
   ·exact h59
   ·exact h62
   ·exact h67
   ·exact h68
   ·exact h75
  ·intro l o hd
   simp only [dec34] at hd
   split at hd
   ·obtain rfl := oij hd; exact ⟨rfl, rfl⟩
   ·cases hd
 ·cases hx
def E95c (W : Y75) : Env := mkE TI TY [(75, F75 W)] nrc nfz
noncomputable def c95c : Code := bodyOf Tryd.f95
def lv95c : Nat → Option Norm := norms []
def en95c : End := ⟨[], ⟨[8], [9000], [], []⟩⟩
def dec95c (l : List TV) (o : List (Nat × TO)) : Option (Bool × List Int) := match l, o with | [.dv (.bool) x0], [(9000, .rcd [.dv (.sl (.int .i64)) x1])] => some (x0, x1) | _, _ => none
def m95c (W : Y75) (N : Nat) (i0 : Int) (p1 : List Int) : Option (Bool × List Int) :=
   (W p1 i0).bind fun r1 =>
   some (!r1, p1)
theorem k95c (W : Y75) (N : Nat) (i0 : Int) (p1 : List Int) : callF (E95c W) lv95c N en95c c95c (resOf Tryd.f95) 6 [.dv (.int .i64) i0, .ptr 9000 0 [0]] [(9000, .rcd [.dv (.sl (.int .i64)) p1])] dec95c = m95c W N i0 p1 := by kernel_rfl
theorem ok95c (W : Y75) (h75 : FnOk Tryd.prog 75 (F75 W)) (a : Y95c) (h : ∀ i0 p1 r, a i0 p1 = some r → (∃ N, m95c W N i0 p1 = some r)) : FnOk Tryd.prog 95 (F95c a) := by
 intro args Of x hx
 simp only [F95c] at hx
 split at hx
 ·rename_i i0 p1
  obtain ⟨N, hN⟩ := h _ _ _ hx
  refine lifted (L := [(75, F75 W)]) (rc := nrc) (fz := nfz) (fn := Tryd.f95) (by kernel_rfl) (by kernel_rfl) (by kernel_rfl) (by kernel_rfl) rfl ?_ ((k95c W N _ _).trans hN) ?_
  ·intro p hp; simp only [List.mem_cons, List.not_mem_nil, or_false] at hp; rcases hp with rfl; exact h75
  ·intro l o hd
   simp only [dec95c] at hd
   split at hd
   ·obtain rfl := oij hd; exact ⟨rfl, rfl⟩
   ·cases hd
 ·cases hx
def E96c95 (X : Y95c) : Env := mkE TI TY [(95, F95c X)] nrc nfz
noncomputable def c96c95 : Code := bodyOf Tryd.f96
def nm96c95_0 : Norm := ⟨[0, 1, 7, 8], [9000, 9001], [], []⟩
def lv96c95 : Nat → Option Norm := norms [(2, nm96c95_0)]
def en96c95 : End := ⟨[], ⟨[19], [9000, 9001], [], []⟩⟩
def dec96c95 (l : List TV) (o : List (Nat × TO)) : Option (Int × List Int × List Int) := match l, o with | [.dv (.int .i64) x0], [(9000, .row (.int .i64) x1), (9001, .rcd [.dv (.sl (.int .i64)) x2])] => some (x0, x1, x2) | _, _ => none
def Sl96c95a (p0 : List Int) (t8_a : Int) (o9001_af0 : List Int) : TS := ⟨slots 19 [(0, .row 9000), (1, .fn 95 0 1 fun i => ([.ptr 9001 0 [0]] : List TV).getD i .any), (7, .dv (.int .i64) (p0.length : Int)), (8, .dv (.int .i64) t8_a)], [(9000, .row (.int .i64) p0), (9001, .rcd [.dv (.sl (.int .i64)) o9001_af0])]⟩
noncomputable def K96c95_0 (X : Y95c) (N : Nat) : Kont (Int × List Int × List Int) := kont (E96c95 X) lv96c95 N c96c95 [1, 0, 1, 0] (fin TI en96c95 (resOf Tryd.f96) dec96c95)
noncomputable def R96c95_0 (X : Y95c) (N : Nat) (m : Nat) : TS → Option (Int × List Int × List Int) := loopK (den (E96c95 X) lv96c95 N (sub c96c95 [1, 0, 1, 0, 0])) (TS.norm nm96c95_0) (K96c95_0 X N) m
def l96c95a (X : Y95c) (N : Nat) (p0 : List Int) : Nat → Int → (List Int) → Option (Int × List Int × List Int)
 | 0, _, _ => none
 | n + 1, t8_a, o9001_af0 => cond (decide (t8_a < (p0.length : Int))) (chk (decide (0 ≤ t8_a ∧ t8_a < (p0.length : Int))) ((X (p0.getD t8_a.toNat 0) o9001_af0).bind fun r1 =>
   cond (r1.1) (some (t8_a, p0, r1.2))
   ((l96c95a X N p0 n (w64 (t8_a + 1)) r1.2))))
   (some ((-1 : Int), p0, o9001_af0))
theorem wl96c95a (X : Y95c) (N : Nat) (p0 : List Int) (m : Nat) (t8_a : Int) (o9001_af0 : List Int) : R96c95_0 X N (m + 1) (Sl96c95a p0 t8_a o9001_af0) = cond (decide (t8_a < (p0.length : Int))) (chk (decide (0 ≤ t8_a ∧ t8_a < (p0.length : Int))) ((X (p0.getD t8_a.toNat 0) o9001_af0).bind fun r1 =>
   cond (r1.1) (some (t8_a, p0, r1.2))
   ((R96c95_0 X N m (Sl96c95a p0 (w64 (t8_a + 1)) r1.2)))))
   (some ((-1 : Int), p0, o9001_af0)) := by kernel_rfl
theorem ql96c95a (X : Y95c) (N : Nat) (p0 : List Int) : ∀ (m : Nat) (t8_a : Int) (o9001_af0 : List Int), R96c95_0 X N m (Sl96c95a p0 t8_a o9001_af0) = l96c95a X N p0 m t8_a o9001_af0
        | 0, _, _ => rfl
        | m + 1, t8_a, o9001_af0 => by rw [wl96c95a]; simp only [l96c95a, ql96c95a X N p0 m]
def m96c95 (X : Y95c) (N : Nat) (p0 : List Int) (p1 : List Int) : Option (Int × List Int × List Int) :=
   (l96c95a X N p0 N (0 : Int) p1)
theorem wm96c95 (X : Y95c) (N : Nat) (p0 : List Int) (p1 : List Int) : callF (E96c95 X) lv96c95 N en96c95 c96c95 (resOf Tryd.f96) 17 [.row 9000, .fn 95 0 1 fun i => ([.ptr 9001 0 [0]] : List TV).getD i .any] [(9000, .row (.int .i64) p0), (9001, .rcd [.dv (.sl (.int .i64)) p1])] dec96c95 = (R96c95_0 X N N (Sl96c95a p0 (0 : Int) p1)) := by kernel_rfl
theorem k96c95 (X : Y95c) (N : Nat) (p0 : List Int) (p1 : List Int) : callF (E96c95 X) lv96c95 N en96c95 c96c95 (resOf Tryd.f96) 17 [.row 9000, .fn 95 0 1 fun i => ([.ptr 9001 0 [0]] : List TV).getD i .any] [(9000, .row (.int .i64) p0), (9001, .rcd [.dv (.sl (.int .i64)) p1])] dec96c95 = m96c95 X N p0 p1 := by rw [wm96c95]; simp only [m96c95, ql96c95a]
theorem ok96c95 (X : Y95c) (h95c : FnOk Tryd.prog 95 (F95c X)) (a : Y96c95) (h : ∀ p0 p1 r, a p0 p1 = some r → (∃ N, m96c95 X N p0 p1 = some r)) : FnOk Tryd.prog 96 (F96c95 a) := by
 intro args Of x hx
 simp only [F96c95] at hx
 split at hx
 ·rename_i f_0 p0 p1 heqc
  have hc0 := congrArg (fun c : List (List TV) => c.getD 0 []) heqc
  obtain ⟨N, hN⟩ := h _ _ _ hx
  refine HSpec.etaL (args := [.row 9000, .fn 95 0 1 fun i => ([.ptr 9001 0 [0]] : List TV).getD i .any]) (O := [(9000, .row (.int .i64) p0), (9001, .rcd [.dv (.sl (.int .i64)) p1])]) ⟨TV.sim_refl _, TV.sim_fn hc0, trivial⟩ ⟨rfl, TO.sim_refl _, rfl, TO.sim_refl _, trivial⟩ (lifted (L := [(95, F95c X)]) (rc := nrc) (fz := nfz) (fn := Tryd.f96) (by kernel_rfl) (by kernel_rfl) (by kernel_rfl) (by kernel_rfl) rfl ?_ ((k96c95 X N _ _).trans hN) ?_)
  ·intro p hp; simp only [List.mem_cons, List.not_mem_nil, or_false] at hp; rcases hp with rfl; exact h95c
  ·intro l o hd
   simp only [dec96c95] at hd
   split at hd
   ·obtain rfl := oij hd; exact ⟨rfl, rfl⟩
   ·cases hd
 ·cases hx
def E94c95 (X : Y95c) (a96c95 : Y96c95) : Env := mkE TI TY [(95, F95c X), (96, F96c95 a96c95)] nrc (fun i => ([41] : List Nat).contains i)
noncomputable def c94c95 : Code := bodyOf Tryd.f94
def nm94c95_0 : Norm := ⟨[0, 1, 5, 6], [9000, 9001], [], []⟩
def lv94c95 : Nat → Option Norm := norms [(5, nm94c95_0)]
def en94c95 : End := ⟨[], ⟨[], [9000, 9001], [(.slot 42, 1500, .int .i64)], []⟩⟩
def dec94c95 (l : List TV) (o : List (Nat × TO)) : Option (List Int × List Int) := match l, o with | [.row 1500], [(1500, .row (.int .i64) x0), (9000, .dead), (9001, .rcd [.dv (.sl (.int .i64)) x1])] => some (x0, x1) | _, _ => none
def Sl94c95a (i5_a : Int) (j6_a : Int) (o9000_a : List Int) (o9001_af0 : List Int) : TS := ⟨slots 42 [(0, .row 9000), (1, .fn 95 0 1 fun i => ([.ptr 9001 0 [0]] : List TV).getD i .any), (5, .dv (.int .i64) i5_a), (6, .dv (.int .i64) j6_a)], [(9000, .row (.int .i64) o9000_a), (9001, .rcd [.dv (.sl (.int .i64)) o9001_af0])]⟩
noncomputable def K94c95_0 (X : Y95c) (a96c95 : Y96c95) (N : Nat) : Kont (List Int × List Int) := kont (E94c95 X a96c95) lv94c95 N c94c95 [1, 1, 1, 0, 1, 0] (fin TI en94c95 (resOf Tryd.f94) dec94c95)
noncomputable def R94c95_0 (X : Y95c) (a96c95 : Y96c95) (N : Nat) (m : Nat) : TS → Option (List Int × List Int) := loopK (den (E94c95 X a96c95) lv94c95 N (sub c94c95 [1, 1, 1, 0, 1, 0, 0])) (TS.norm nm94c95_0) (K94c95_0 X a96c95 N) m
def l94c95a (X : Y95c) (a96c95 : Y96c95) (N : Nat) : Nat → Int → Int → (List Int) → (List Int) → Option (List Int × List Int)
 | 0, _, _, _, _ => none
 | n + 1, i5_a, j6_a, o9000_a, o9001_af0 => cond (decide (j6_a < (o9000_a.length : Int))) (chk (decide (0 ≤ j6_a ∧ j6_a < (o9000_a.length : Int))) ((X (o9000_a.getD j6_a.toNat 0) o9001_af0).bind fun r2 =>
   cond (!r2.1) (chk (decide (0 ≤ i5_a ∧ i5_a < (o9000_a.length : Int))) ((l94c95a X a96c95 N n (w64 (i5_a + 1)) (w64 (j6_a + 1)) (o9000_a.set i5_a.toNat (o9000_a.getD j6_a.toNat 0)) r2.2)))
   ((l94c95a X a96c95 N n i5_a (w64 (j6_a + 1)) o9000_a r2.2))))
   (chk (decide (0 ≤ i5_a ∧ i5_a ≤ (o9000_a.length : Int))) (chk (decide (i5_a.toNat < o9000_a.length)) (chk (decide (0 ≤ i5_a ∧ i5_a ≤ ((clr o9000_a i5_a.toNat o9000_a.length (0 : Int)).length : Int))) (some ((clr o9000_a i5_a.toNat o9000_a.length (0 : Int)).take i5_a.toNat, o9001_af0)))))
theorem wl94c95a (X : Y95c) (a96c95 : Y96c95) (N : Nat) (m : Nat) (i5_a : Int) (j6_a : Int) (o9000_a : List Int) (o9001_af0 : List Int) : R94c95_0 X a96c95 N (m + 1) (Sl94c95a i5_a j6_a o9000_a o9001_af0) = cond (decide (j6_a < (o9000_a.length : Int))) (chk (decide (0 ≤ j6_a ∧ j6_a < (o9000_a.length : Int))) ((X (o9000_a.getD j6_a.toNat 0) o9001_af0).bind fun r2 =>
   cond (!r2.1) (chk (decide (0 ≤ i5_a ∧ i5_a < (o9000_a.length : Int))) ((R94c95_0 X a96c95 N m (Sl94c95a (w64 (i5_a + 1)) (w64 (j6_a + 1)) (o9000_a.set i5_a.toNat (o9000_a.getD j6_a.toNat 0)) r2.2))))
   ((R94c95_0 X a96c95 N m (Sl94c95a i5_a (w64 (j6_a + 1)) o9000_a r2.2)))))
   (chk (decide (0 ≤ i5_a ∧ i5_a ≤ (o9000_a.length : Int))) (chk (decide (i5_a.toNat < o9000_a.length)) (chk (decide (0 ≤ i5_a ∧ i5_a ≤ ((clr o9000_a i5_a.toNat o9000_a.length (0 : Int)).length : Int))) (some ((clr o9000_a i5_a.toNat o9000_a.length (0 : Int)).take i5_a.toNat, o9001_af0))))) := by kernel_rfl
theorem ql94c95a (X : Y95c) (a96c95 : Y96c95) (N : Nat) : ∀ (m : Nat) (i5_a : Int) (j6_a : Int) (o9000_a : List Int) (o9001_af0 : List Int), R94c95_0 X a96c95 N m (Sl94c95a i5_a j6_a o9000_a o9001_af0) = l94c95a X a96c95 N m i5_a j6_a o9000_a o9001_af0
        | 0, _, _, _, _ => rfl
        | m + 1, i5_a, j6_a, o9000_a, o9001_af0 => by rw [wl94c95a]; simp only [l94c95a, ql94c95a X a96c95 N m]
def m94c95 (X : Y95c) (a96c95 : Y96c95) (N : Nat) (p0 : List Int) (p1 : List Int) : Option (List Int × List Int) :=
   (a96c95 p0 p1).bind fun r1 =>
   cond (r1.1 == (-1 : Int)) (some (r1.2.1, r1.2.2))
   ((l94c95a X a96c95 N N r1.1 (w64 (r1.1 + 1)) r1.2.1 r1.2.2))
theorem wm94c95 (X : Y95c) (a96c95 : Y96c95) (N : Nat) (p0 : List Int) (p1 : List Int) : callF (E94c95 X a96c95) lv94c95 N en94c95 c94c95 (resOf Tryd.f94) 40 [.row 9000, .fn 95 0 1 fun i => ([.ptr 9001 0 [0]] : List TV).getD i .any] [(9000, .row (.int .i64) p0), (9001, .rcd [.dv (.sl (.int .i64)) p1])] dec94c95 = (a96c95 p0 p1).bind fun r1 =>
   cond (r1.1 == (-1 : Int)) (some (r1.2.1, r1.2.2))
   ((R94c95_0 X a96c95 N N (Sl94c95a r1.1 (w64 (r1.1 + 1)) r1.2.1 r1.2.2))) := by kernel_rfl
theorem k94c95 (X : Y95c) (a96c95 : Y96c95) (N : Nat) (p0 : List Int) (p1 : List Int) : callF (E94c95 X a96c95) lv94c95 N en94c95 c94c95 (resOf Tryd.f94) 40 [.row 9000, .fn 95 0 1 fun i => ([.ptr 9001 0 [0]] : List TV).getD i .any] [(9000, .row (.int .i64) p0), (9001, .rcd [.dv (.sl (.int .i64)) p1])] dec94c95 = m94c95 X a96c95 N p0 p1 := by rw [wm94c95]; simp only [m94c95, ql94c95a]
theorem ok94c95 (X : Y95c) (a96c95 : Y96c95) (h95c : FnOk Tryd.prog 95 (F95c X)) (h96c95 : FnOk Tryd.prog 96 (F96c95 a96c95)) (a : Y94c95) (h : ∀ p0 p1 r, a p0 p1 = some r → (∃ N, m94c95 X a96c95 N p0 p1 = some r)) : FnOk Tryd.prog 94 (F94c95 a) := by
 intro args Of x hx
 simp only [F94c95] at hx
 split at hx
 ·rename_i f_0 p0 p1 heqc
  have hc0 := congrArg (fun c : List (List TV) => c.getD 0 []) heqc
  obtain ⟨N, hN⟩ := h _ _ _ hx
  refine HSpec.etaL (args := [.row 9000, .fn 95 0 1 fun i => ([.ptr 9001 0 [0]] : List TV).getD i .any]) (O := [(9000, .row (.int .i64) p0), (9001, .rcd [.dv (.sl (.int .i64)) p1])]) ⟨TV.sim_refl _, TV.sim_fn hc0, trivial⟩ ⟨rfl, TO.sim_refl _, rfl, TO.sim_refl _, trivial⟩ (lifted (L := [(95, F95c X), (96, F96c95 a96c95)]) (rc := nrc) (fz := (fun i => ([41] : List Nat).contains i)) (fn := Tryd.f94) (by kernel_rfl) (by kernel_rfl) (by kernel_rfl) (by kernel_rfl) rfl ?_ ((k94c95 X a96c95 N _ _).trans hN) ?_)
  ·intro p hp; simp only [List.mem_cons, List.not_mem_nil, or_false] at hp; rcases hp with rfl | rfl
   ·exact h95c
   ·exact h96c95
  ·intro l o hd
   simp only [dec94c95] at hd
   split at hd
   ·obtain rfl := oij hd; exact ⟨rfl, rfl⟩
   ·cases hd
 ·cases hx
def E97c : Env := mkE TI TY [] nrc nfz
noncomputable def c97c : Code := bodyOf Tryd.f97
def lv97c : Nat → Option Norm := norms []
def en97c : End := ⟨[], ⟨[9], [9000], [], []⟩⟩
def dec97c (l : List TV) (o : List (Nat × TO)) : Option (Bool × Int) := match l, o with | [.dv (.bool) x0], [(9000, .rcd [.dv (.int .u8) x1])] => some (x0, x1) | _, _ => none
def m97c (N : Nat) (mx0 : Int) (p1 : Int) : Option (Bool × Int) :=
   chk (decide (0 ≤ mx0)) (some ((bAnd .u8 (Int.fdiv p1 (2 ^ min (Int.toNat mx0) 8)) (1 : Int)) == (1 : Int), p1))
theorem k97c (N : Nat) (mx0 : Int) (p1 : Int) : callF (E97c) lv97c N en97c c97c (resOf Tryd.f97) 7 [.dv (.int .i64) mx0, .ptr 9000 0 [0]] [(9000, .rcd [.dv (.int .u8) p1])] dec97c = m97c N mx0 p1 := by kernel_rfl
theorem ok97c (a : Y97c) (h : ∀ mx0 p1 r, a mx0 p1 = some r → (∃ N, m97c N mx0 p1 = some r)) : FnOk Tryd.prog 97 (F97c a) := by
 intro args Of x hx
 simp only [F97c] at hx
 split at hx
 ·rename_i mx0 p1
  obtain ⟨N, hN⟩ := h _ _ _ hx
  refine lifted (L := []) (rc := nrc) (fz := nfz) (fn := Tryd.f97) (by kernel_rfl) (by kernel_rfl) (by kernel_rfl) (by kernel_rfl) rfl ?_ ((k97c N _ _).trans hN) ?_
  ·intro p hp; cases hp
  ·intro l o hd
   simp only [dec97c] at hd
   split at hd
   ·obtain rfl := oij hd; exact ⟨rfl, rfl⟩
   ·cases hd
 ·cases hx
def E96c97 (a97c : Y97c) : Env := mkE TI TY [(97, F97c a97c)] nrc nfz
noncomputable def c96c97 : Code := bodyOf Tryd.f96
def nm96c97_0 : Norm := ⟨[0, 1, 7, 8], [9000, 9001], [], []⟩
def lv96c97 : Nat → Option Norm := norms [(2, nm96c97_0)]
def en96c97 : End := ⟨[], ⟨[19], [9000, 9001], [], []⟩⟩
def dec96c97 (l : List TV) (o : List (Nat × TO)) : Option (Int × List Int × Int) := match l, o with | [.dv (.int .i64) x0], [(9000, .row (.int .i64) x1), (9001, .rcd [.dv (.int .u8) x2])] => some (x0, x1, x2) | _, _ => none
def Sl96c97a (p0 : List Int) (t8_a : Int) (o9001_af0 : Int) : TS := ⟨slots 19 [(0, .row 9000), (1, .fn 97 0 1 fun i => ([.ptr 9001 0 [0]] : List TV).getD i .any), (7, .dv (.int .i64) (p0.length : Int)), (8, .dv (.int .i64) t8_a)], [(9000, .row (.int .i64) p0), (9001, .rcd [.dv (.int .u8) o9001_af0])]⟩
noncomputable def K96c97_0 (a97c : Y97c) (N : Nat) : Kont (Int × List Int × Int) := kont (E96c97 a97c) lv96c97 N c96c97 [1, 0, 1, 0] (fin TI en96c97 (resOf Tryd.f96) dec96c97)
noncomputable def R96c97_0 (a97c : Y97c) (N : Nat) (m : Nat) : TS → Option (Int × List Int × Int) := loopK (den (E96c97 a97c) lv96c97 N (sub c96c97 [1, 0, 1, 0, 0])) (TS.norm nm96c97_0) (K96c97_0 a97c N) m
def l96c97a (a97c : Y97c) (N : Nat) (p0 : List Int) : Nat → Int → Int → Option (Int × List Int × Int)
 | 0, _, _ => none
 | n + 1, t8_a, o9001_af0 => cond (decide (t8_a < (p0.length : Int))) (chk (decide (0 ≤ t8_a ∧ t8_a < (p0.length : Int))) ((a97c (p0.getD t8_a.toNat 0) o9001_af0).bind fun r1 =>
   cond (r1.1) (some (t8_a, p0, r1.2))
   ((l96c97a a97c N p0 n (w64 (t8_a + 1)) r1.2))))
   (some ((-1 : Int), p0, o9001_af0))
theorem wl96c97a (a97c : Y97c) (N : Nat) (p0 : List Int) (m : Nat) (t8_a : Int) (o9001_af0 : Int) : R96c97_0 a97c N (m + 1) (Sl96c97a p0 t8_a o9001_af0) = cond (decide (t8_a < (p0.length : Int))) (chk (decide (0 ≤ t8_a ∧ t8_a < (p0.length : Int))) ((a97c (p0.getD t8_a.toNat 0) o9001_af0).bind fun r1 =>
   cond (r1.1) (some (t8_a, p0, r1.2))
   ((R96c97_0 a97c N m (Sl96c97a p0 (w64 (t8_a + 1)) r1.2)))))
   (some ((-1 : Int), p0, o9001_af0)) := by kernel_rfl
theorem ql96c97a (a97c : Y97c) (N : Nat) (p0 : List Int) : ∀ (m : Nat) (t8_a : Int) (o9001_af0 : Int), R96c97_0 a97c N m (Sl96c97a p0 t8_a o9001_af0) = l96c97a a97c N p0 m t8_a o9001_af0
        | 0, _, _ => rfl
        | m + 1, t8_a, o9001_af0 => by rw [wl96c97a]; simp only [l96c97a, ql96c97a a97c N p0 m]
def m96c97 (a97c : Y97c) (N : Nat) (p0 : List Int) (p1 : Int) : Option (Int × List Int × Int) :=
   (l96c97a a97c N p0 N (0 : Int) p1)
theorem wm96c97 (a97c : Y97c) (N : Nat) (p0 : List Int) (p1 : Int) : callF (E96c97 a97c) lv96c97 N en96c97 c96c97 (resOf Tryd.f96) 17 [.row 9000, .fn 97 0 1 fun i => ([.ptr 9001 0 [0]] : List TV).getD i .any] [(9000, .row (.int .i64) p0), (9001, .rcd [.dv (.int .u8) p1])] dec96c97 = (R96c97_0 a97c N N (Sl96c97a p0 (0 : Int) p1)) := by kernel_rfl
theorem k96c97 (a97c : Y97c) (N : Nat) (p0 : List Int) (p1 : Int) : callF (E96c97 a97c) lv96c97 N en96c97 c96c97 (resOf Tryd.f96) 17 [.row 9000, .fn 97 0 1 fun i => ([.ptr 9001 0 [0]] : List TV).getD i .any] [(9000, .row (.int .i64) p0), (9001, .rcd [.dv (.int .u8) p1])] dec96c97 = m96c97 a97c N p0 p1 := by rw [wm96c97]; simp only [m96c97, ql96c97a]
theorem ok96c97 (a97c : Y97c) (h97c : FnOk Tryd.prog 97 (F97c a97c)) (a : Y96c97) (h : ∀ p0 p1 r, a p0 p1 = some r → (∃ N, m96c97 a97c N p0 p1 = some r)) : FnOk Tryd.prog 96 (F96c97 a) := by
 intro args Of x hx
 simp only [F96c97] at hx
 split at hx
 ·rename_i f_0 p0 p1 heqc
  have hc0 := congrArg (fun c : List (List TV) => c.getD 0 []) heqc
  obtain ⟨N, hN⟩ := h _ _ _ hx
  refine HSpec.etaL (args := [.row 9000, .fn 97 0 1 fun i => ([.ptr 9001 0 [0]] : List TV).getD i .any]) (O := [(9000, .row (.int .i64) p0), (9001, .rcd [.dv (.int .u8) p1])]) ⟨TV.sim_refl _, TV.sim_fn hc0, trivial⟩ ⟨rfl, TO.sim_refl _, rfl, TO.sim_refl _, trivial⟩ (lifted (L := [(97, F97c a97c)]) (rc := nrc) (fz := nfz) (fn := Tryd.f96) (by kernel_rfl) (by kernel_rfl) (by kernel_rfl) (by kernel_rfl) rfl ?_ ((k96c97 a97c N _ _).trans hN) ?_)
  ·intro p hp; simp only [List.mem_cons, List.not_mem_nil, or_false] at hp; rcases hp with rfl; exact h97c
  ·intro l o hd
   simp only [dec96c97] at hd
   split at hd
   ·obtain rfl := oij hd; exact ⟨rfl, rfl⟩
   ·cases hd
 ·cases hx
def E78 (H : Y52) (P : Y56) (A : Y68) (a84 : Y84) (a94c95 : Y94c95) (a96c97 : Y96c97) : Env := mkE TI TY [(52, F52 H), (56, F56 P), (68, F68 A), (84, F84 a84), (94, F94c95 a94c95), (96, F96c97 a96c97)] (fun i => ([(9, [some (.sl (.int .i64))])] : List (Nat × List (Option DT))).lookup i) nfz
noncomputable def c78 : Code := bodyOf Tryd.f78
def nm78_0 : Norm := ⟨[1, 2, 4, 6, 24, 25, 26], [2, 4, 6], [(.slot 7, 1007, .int .i64)], []⟩
def nm78_1 : Norm := ⟨[1, 4, 7, 41, 42, 43], [4, 1007, 6], [(.slot 10, 1010, .int .i64)], []⟩
def lv78 : Nat → Option Norm := norms [(4, nm78_0), (11, nm78_1)]
def en78 : End := ⟨[(64, .pair (.sl (.int .i64)) (.pair (.sl (.sl (.int .i64))) (.unit)))], ⟨[64, 65], [], [], []⟩⟩
def dec78 (l : List TV) (o : List (Nat × TO)) : Option (Db × Bool) := match l, o with | [.dv (.pair (.sl (.int .i64)) (.pair (.sl (.sl (.int .i64))) (.unit))) x0, .dv (.bool) x1], [] => some (x0, x1) | _, _ => none
def Sl78b (lx1 : LL) (in7_a : List Int) (o6_a : Wm0T0) (r6 : Int) (t43_b : Int) (word10_b : List Int) : TS := ⟨slots 64 [(1, .dv (.sl (.sl (.int .i64))) lx1), (4, .ptr 4 0 []), (7, .row 1007), (10, .row 1010), (41, .view 6 0 [] 1 8 0 r6.toNat), (42, .dv (.int .i64) ((r6.toNat - 0 : Nat) : Int)), (43, .dv (.int .i64) t43_b)], [(1010, .row (.int .i64) word10_b), (4, .row (.pair (.sl (.int .i64)) (.pair (.sl (.sl (.int .i64))) (.unit))) ([(([] : List Int), (([] : LL), ()))] : List Db)), (1007, .row (.int .i64) in7_a), (6, .row (.arr 8 (.int .u8)) o6_a)]⟩
def Sl78a (cx0 : Int × LL × Unit) (lx1 : LL) (t26_a : Int) (in7_a : List Int) (o6_a : Wm0T0) : TS := ⟨slots 64 [(1, .dv (.sl (.sl (.int .i64))) lx1), (2, .ptr 2 0 []), (4, .ptr 4 0 []), (6, .ptr 6 0 []), (7, .row 1007), (24, .dv (.sl (.sl (.int .i64))) (lx1.drop 1)), (25, .dv (.int .i64) ((lx1.drop 1).length : Int)), (26, .dv (.int .i64) t26_a)], [(1007, .row (.int .i64) in7_a), (2, .row (.pair (.int .i64) (.pair (.sl (.sl (.int .i64))) (.unit))) ([cx0] : List Cd)), (4, .row (.pair (.sl (.int .i64)) (.pair (.sl (.sl (.int .i64))) (.unit))) ([(([] : List Int), (([] : LL), ()))] : List Db)), (6, .row (.arr 8 (.int .u8)) o6_a)]⟩
noncomputable def K78_0 (H : Y52) (P : Y56) (A : Y68) (a84 : Y84) (a94c95 : Y94c95) (a96c97 : Y96c97) (N : Nat) : Kont (Db × Bool) := kont (E78 H P A a84 a94c95 a96c97) lv78 N c78 [1, 1, 1, 0, 1, 0] (fin TI en78 (resOf Tryd.f78) dec78)
noncomputable def R78_0 (H : Y52) (P : Y56) (A : Y68) (a84 : Y84) (a94c95 : Y94c95) (a96c97 : Y96c97) (N : Nat) (m : Nat) : TS → Option (Db × Bool) := loopK (den (E78 H P A a84 a94c95 a96c97) lv78 N (sub c78 [1, 1, 1, 0, 1, 0, 0])) (TS.norm nm78_0) (K78_0 H P A a84 a94c95 a96c97 N) m
noncomputable def K78_1 (H : Y52) (P : Y56) (A : Y68) (a84 : Y84) (a94c95 : Y94c95) (a96c97 : Y96c97) (N : Nat) : Kont (Db × Bool) := kont (E78 H P A a84 a94c95 a96c97) lv78 N c78 [1, 1, 1, 1, 1, 0, 1, 0] (fin TI en78 (resOf Tryd.f78) dec78)
noncomputable def R78_1 (H : Y52) (P : Y56) (A : Y68) (a84 : Y84) (a94c95 : Y94c95) (a96c97 : Y96c97) (N : Nat) (m : Nat) : TS → Option (Db × Bool) := loopK (den (E78 H P A a84 a94c95 a96c97) lv78 N (sub c78 [1, 1, 1, 1, 1, 0, 1, 0, 0])) (TS.norm nm78_1) (K78_1 H P A a84 a94c95 a96c97 N) m
def l78b (H : Y52) (P : Y56) (A : Y68) (a84 : Y84) (a94c95 : Y94c95) (a96c97 : Y96c97) (N : Nat) (lx1 : LL) (in7_a : List Int) (o6_a : Wm0T0) (r6 : Int) : Nat → Int → (List Int) → Option (Db × Bool)
 | 0, _, _ => none
 | n + 1, t43_b, word10_b => cond (decide (t43_b < ((r6.toNat - 0 : Nat) : Int))) (chk (decide (0 ≤ t43_b ∧ t43_b < ((r6.toNat - 0 : Nat) : Int))) ((a96c97 ([(0 : Int), (1 : Int), (2 : Int), (3 : Int)] : List Int) ((o6_a.getD 0 ([(0 : Int), (0 : Int), (0 : Int), (0 : Int), (0 : Int), (0 : Int), (0 : Int), (0 : Int)] : List Int)).getD (0 + t43_b.toNat) (0 : Int))).bind fun r7 =>
   cond (decide (r7.1 < (0 : Int))) (some ((([] : List Int), (([] : LL), ())), false))
   (chk (small (word10_b.length + 1) 8) ((l78b H P A a84 a94c95 a96c97 N lx1 in7_a o6_a r6 n (w64 (t43_b + 1)) (word10_b ++ ([r7.1] : List Int)))))))
   (some ((word10_b, (lx1, ())), (in7_a.length : Int) == (0 : Int)))
theorem wl78b (H : Y52) (P : Y56) (A : Y68) (a84 : Y84) (a94c95 : Y94c95) (a96c97 : Y96c97) (N : Nat) (lx1 : LL) (in7_a : List Int) (o6_a : Wm0T0) (r6 : Int) (m : Nat) (t43_b : Int) (word10_b : List Int) : R78_1 H P A a84 a94c95 a96c97 N (m + 1) (Sl78b lx1 in7_a o6_a r6 t43_b word10_b) = cond (decide (t43_b < ((r6.toNat - 0 : Nat) : Int))) (chk (decide (0 ≤ t43_b ∧ t43_b < ((r6.toNat - 0 : Nat) : Int))) ((a96c97 ([(0 : Int), (1 : Int), (2 : Int), (3 : Int)] : List Int) ((o6_a.getD 0 ([(0 : Int), (0 : Int), (0 : Int), (0 : Int), (0 : Int), (0 : Int), (0 : Int), (0 : Int)] : List Int)).getD (0 + t43_b.toNat) (0 : Int))).bind fun r7 =>
   cond (decide (r7.1 < (0 : Int))) (some ((([] : List Int), (([] : LL), ())), false))
   (chk (small (word10_b.length + 1) 8) ((R78_1 H P A a84 a94c95 a96c97 N m (Sl78b lx1 in7_a o6_a r6 (w64 (t43_b + 1)) (word10_b ++ ([r7.1] : List Int))))))))
   (some ((word10_b, (lx1, ())), (in7_a.length : Int) == (0 : Int))) := by kernel_rfl
theorem ql78b (H : Y52) (P : Y56) (A : Y68) (a84 : Y84) (a94c95 : Y94c95) (a96c97 : Y96c97) (N : Nat) (lx1 : LL) (in7_a : List Int) (o6_a : Wm0T0) (r6 : Int) : ∀ (m : Nat) (t43_b : Int) (word10_b : List Int), R78_1 H P A a84 a94c95 a96c97 N m (Sl78b lx1 in7_a o6_a r6 t43_b word10_b) = l78b H P A a84 a94c95 a96c97 N lx1 in7_a o6_a r6 m t43_b word10_b
        | 0, _, _ => rfl
        | m + 1, t43_b, word10_b => by rw [wl78b]; simp only [l78b, ql78b H P A a84 a94c95 a96c97 N lx1 in7_a o6_a r6 m]
def l78a (H : Y52) (P : Y56) (A : Y68) (a84 : Y84) (a94c95 : Y94c95) (a96c97 : Y96c97) (N : Nat) (cx0 : Int × LL × Unit) (lx1 : LL) : Nat → Int → (List Int) → LL → Option (Db × Bool)
 | 0, _, _, _ => none
 | n + 1, t26_a, in7_a, o6_a => cond (decide (t26_a < ((lx1.drop 1).length : Int))) (chk (decide (0 ≤ t26_a ∧ t26_a < ((lx1.drop 1).length : Int))) ((P cx0 ((lx1.drop 1).getD t26_a.toNat ([] : List Int))).bind fun r3 =>
   (a84 (o6_a.getD 0 ([(0 : Int), (0 : Int), (0 : Int), (0 : Int), (0 : Int), (0 : Int), (0 : Int), (0 : Int)] : List Int)) r3).bind fun r4 =>
   (a94c95 in7_a ((lx1.drop 1).getD t26_a.toNat ([] : List Int))).bind fun r5 =>
   (l78a H P A a84 a94c95 a96c97 N cx0 lx1 n (w64 (t26_a + 1)) r5.1 (o6_a.set 0 r4))))
   ((H cx0).bind fun r6 =>
   chk (decide (0 ≤ r6 ∧ r6 ≤ (8 : Int)) && true) ((l78b H P A a84 a94c95 a96c97 N lx1 in7_a o6_a r6 N (0 : Int) ([] : List Int))))
theorem wl78a (H : Y52) (P : Y56) (A : Y68) (a84 : Y84) (a94c95 : Y94c95) (a96c97 : Y96c97) (N : Nat) (cx0 : Int × LL × Unit) (lx1 : LL) (m : Nat) (t26_a : Int) (in7_a : List Int) (o6_a : Wm0T0) : R78_0 H P A a84 a94c95 a96c97 N (m + 1) (Sl78a cx0 lx1 t26_a in7_a o6_a) = cond (decide (t26_a < ((lx1.drop 1).length : Int))) (chk (decide (0 ≤ t26_a ∧ t26_a < ((lx1.drop 1).length : Int))) ((P cx0 ((lx1.drop 1).getD t26_a.toNat ([] : List Int))).bind fun r3 =>
   (a84 (o6_a.getD 0 ([(0 : Int), (0 : Int), (0 : Int), (0 : Int), (0 : Int), (0 : Int), (0 : Int), (0 : Int)] : List Int)) r3).bind fun r4 =>
   (a94c95 in7_a ((lx1.drop 1).getD t26_a.toNat ([] : List Int))).bind fun r5 =>
   (R78_0 H P A a84 a94c95 a96c97 N m (Sl78a cx0 lx1 (w64 (t26_a + 1)) r5.1 (o6_a.set 0 r4)))))
   ((H cx0).bind fun r6 =>
   chk (decide (0 ≤ r6 ∧ r6 ≤ (8 : Int)) && true) ((R78_1 H P A a84 a94c95 a96c97 N N (Sl78b lx1 in7_a o6_a r6 (0 : Int) ([] : List Int))))) := by kernel_rfl
theorem ql78a (H : Y52) (P : Y56) (A : Y68) (a84 : Y84) (a94c95 : Y94c95) (a96c97 : Y96c97) (N : Nat) (cx0 : Int × LL × Unit) (lx1 : LL) : ∀ (m : Nat) (t26_a : Int) (in7_a : List Int) (o6_a : Wm0T0), R78_0 H P A a84 a94c95 a96c97 N m (Sl78a cx0 lx1 t26_a in7_a o6_a) = l78a H P A a84 a94c95 a96c97 N cx0 lx1 m t26_a in7_a o6_a
        | 0, _, _, _ => rfl
        | m + 1, t26_a, in7_a, o6_a => by rw [wl78a]; simp only [l78a, ql78b, ql78a H P A a84 a94c95 a96c97 N cx0 lx1 m]
def m78 (H : Y52) (P : Y56) (A : Y68) (a84 : Y84) (a94c95 : Y94c95) (a96c97 : Y96c97) (N : Nat) (cx0 : Int × LL × Unit) (lx1 : LL) : Option (Db × Bool) :=
   chk (decide (0 ≤ (0 : Int) ∧ (0 : Int) < (lx1.length : Int))) ((P cx0 (lx1.getD 0 ([] : List Int))).bind fun r1 =>
   chk (decide (0 ≤ (0 : Int) ∧ (0 : Int) < (lx1.length : Int))) (chk ((decide (0 < (lx1.getD 0 ([] : List Int)).length)) && (true)) ((A (some (lx1.getD 0 ([] : List Int)))).bind fun r2 =>
   chk (decide (0 ≤ (1 : Int) ∧ (1 : Int) ≤ (lx1.length : Int))) ((l78a H P A a84 a94c95 a96c97 N cx0 lx1 N (0 : Int) r2 ([r1] : LL))))))
theorem wm78 (H : Y52) (P : Y56) (A : Y68) (a84 : Y84) (a94c95 : Y94c95) (a96c97 : Y96c97) (N : Nat) (cx0 : Int × LL × Unit) (lx1 : LL) : callF (E78 H P A a84 a94c95 a96c97) lv78 N en78 c78 (resOf Tryd.f78) 62 [.dv (.pair (.int .i64) (.pair (.sl (.sl (.int .i64))) (.unit))) cx0, .dv (.sl (.sl (.int .i64))) lx1] [] dec78 = chk (decide (0 ≤ (0 : Int) ∧ (0 : Int) < (lx1.length : Int))) ((P cx0 (lx1.getD 0 ([] : List Int))).bind fun r1 =>
   chk (decide (0 ≤ (0 : Int) ∧ (0 : Int) < (lx1.length : Int))) (chk ((decide (0 < (lx1.getD 0 ([] : List Int)).length)) && (true)) ((A (some (lx1.getD 0 ([] : List Int)))).bind fun r2 =>
   chk (decide (0 ≤ (1 : Int) ∧ (1 : Int) ≤ (lx1.length : Int))) ((R78_0 H P A a84 a94c95 a96c97 N N (Sl78a cx0 lx1 (0 : Int) r2 ([r1] : LL))))))) := by kernel_rfl
theorem k78 (H : Y52) (P : Y56) (A : Y68) (a84 : Y84) (a94c95 : Y94c95) (a96c97 : Y96c97) (N : Nat) (cx0 : Int × LL × Unit) (lx1 : LL) : callF (E78 H P A a84 a94c95 a96c97) lv78 N en78 c78 (resOf Tryd.f78) 62 [.dv (.pair (.int .i64) (.pair (.sl (.sl (.int .i64))) (.unit))) cx0, .dv (.sl (.sl (.int .i64))) lx1] [] dec78 = m78 H P A a84 a94c95 a96c97 N cx0 lx1 := by rw [wm78]; simp only [m78, ql78a]
theorem ok78 (H : Y52) (P : Y56) (A : Y68) (a84 : Y84) (a94c95 : Y94c95) (a96c97 : Y96c97) (h52 : FnOk Tryd.prog 52 (F52 H)) (h56 : FnOk Tryd.prog 56 (F56 P)) (h68 : FnOk Tryd.prog 68 (F68 A)) (h84 : FnOk Tryd.prog 84 (F84 a84)) (h94c95 : FnOk Tryd.prog 94 (F94c95 a94c95)) (h96c97 : FnOk Tryd.prog 96 (F96c97 a96c97)) (a : Y78) (h : ∀ cx0 lx1 r, a cx0 lx1 = some r → (∃ N, m78 H P A a84 a94c95 a96c97 N cx0 lx1 = some r)) : FnOk Tryd.prog 78 (F78 a) := by
 intro args Of x hx
 simp only [F78] at hx
 split at hx
 ·rename_i cx0 lx1
  obtain ⟨N, hN⟩ := h _ _ _ hx
  refine lifted (L := [(52, F52 H), (56, F56 P), (68, F68 A), (84, F84 a84), (94, F94c95 a94c95), (96, F96c97 a96c97)]) (rc := (fun i => ([(9, [some (.sl (.int .i64))])] : List (Nat × List (Option DT))).lookup i)) (fz := nfz) (fn := Tryd.f78) (by kernel_rfl) (by kernel_rfl) (by kernel_rfl) (by kernel_rfl) rfl ?_ ((k78 H P A a84 a94c95 a96c97 N _ _).trans hN) ?_
  ·intro p hp; simp only [List.mem_cons, List.not_mem_nil, or_false] at hp; rcases hp with rfl | rfl | rfl | rfl | rfl | rfl
   ·exact h52
   ·exact h56
   ·exact h68
   ·exact h84
   ·exact h94c95
   ·exact h96c97
  ·intro l o hd
   simp only [dec78] at hd
   split at hd
   ·obtain rfl := oij hd; exact ⟨rfl, rfl⟩
   ·cases hd
 ·cases hx
def E36 (B : Y22) (C : Y67) (A : Y68) (V : Y78) : Env := mkEq TI TY [(22, F22 B), (67, F67 C), (68, F68 A), (78, F78 V)] (fun i => ([(5, [some (.sl (.int .i64))])] : List (Nat × List (Option DT))).lookup i) nfz coalSeq
noncomputable def c36 : Code := bodyOf Tryd.f36
def nm36_0 : Norm := ⟨[1, 2, 3, 19], [1, 2, 3], [], []⟩
def nm36_1 : Norm := ⟨[1, 2, 3, 5, 22], [1, 2, 3, 5], [], []⟩
def nm36_2 : Norm := ⟨[1, 2, 3, 37], [1, 2, 3], [], []⟩
def lv36 : Nat → Option Norm := norms [(6, nm36_0), (8, nm36_1), (13, nm36_2)]
def en36 : End := ⟨[(72, .pair (.sl (.int .i64)) (.pair (.sl (.sl (.int .i64))) (.unit)))], ⟨[72, 73], [], [], []⟩⟩
def dec36 (l : List TV) (o : List (Nat × TO)) : Option (Db × Int) := match l, o with | [.dv (.pair (.sl (.int .i64)) (.pair (.sl (.sl (.int .i64))) (.unit))) x0, .dv (.int .i64) x1], [] => some (x0, x1) | _, _ => none
def Sl36b (cx0 : Int × LL × Unit) (r3 : Int × Int × LL × Unit) : TS := ⟨slots 72 [(1, .ptr 1 0 []), (2, .ptr 2 0 []), (3, .ptr 3 0 [0]), (37, .fn 87 0 2 fun i => ([.el (.int .i64) r3.1 [], .el (.pair (.int .i64) (.pair (.sl (.sl (.int .i64))) (.unit))) r3.2 []] : List TV).getD i .any)], [(1, .row (.pair (.int .i64) (.pair (.sl (.sl (.int .i64))) (.unit))) ([cx0] : List Cd)), (2, .row (.pair (.sl (.int .i64)) (.pair (.sl (.sl (.int .i64))) (.unit))) ([(([] : List Int), (([] : LL), ()))] : List Db)), (3, .rcd [.dv (.int .i64) (0 : Int)])]⟩
def Sl36c (cx0 : Int × LL × Unit) (e6a : List Int) (r7 : Int × Int × LL × Unit) : TS := ⟨slots 72 [(1, .ptr 1 0 []), (2, .ptr 2 0 []), (3, .ptr 3 0 [0]), (5, .ptr 5 0 [0]), (22, .fn 87 0 2 fun i => ([.el (.int .i64) r7.1 [], .el (.pair (.int .i64) (.pair (.sl (.sl (.int .i64))) (.unit))) r7.2 []] : List TV).getD i .any)], [(1, .row (.pair (.int .i64) (.pair (.sl (.sl (.int .i64))) (.unit))) ([cx0] : List Cd)), (2, .row (.pair (.sl (.int .i64)) (.pair (.sl (.sl (.int .i64))) (.unit))) ([(([] : List Int), (([] : LL), ()))] : List Db)), (3, .rcd [.dv (.int .i64) (0 : Int)]), (5, .rcd [.dv (.sl (.int .i64)) e6a])]⟩
def Sl36a (cx0 : Int × LL × Unit) (r2 : Int × Int × LL × Unit) : TS := ⟨slots 72 [(1, .ptr 1 0 []), (2, .ptr 2 0 []), (3, .ptr 3 0 [0]), (19, .fn 87 0 2 fun i => ([.el (.int .i64) r2.1 [], .el (.pair (.int .i64) (.pair (.sl (.sl (.int .i64))) (.unit))) r2.2 []] : List TV).getD i .any)], [(1, .row (.pair (.int .i64) (.pair (.sl (.sl (.int .i64))) (.unit))) ([cx0] : List Cd)), (2, .row (.pair (.sl (.int .i64)) (.pair (.sl (.sl (.int .i64))) (.unit))) ([(([] : List Int), (([] : LL), ()))] : List Db)), (3, .rcd [.dv (.int .i64) (0 : Int)])]⟩
noncomputable def K36_0 (B : Y22) (C : Y67) (A : Y68) (V : Y78) (N : Nat) : Kont (Db × Int) := kont (E36 B C A V) lv36 N c36 [1, 1, 0, 1, 0] (fin TI en36 (resOf Tryd.f36) dec36)
noncomputable def R36_0 (B : Y22) (C : Y67) (A : Y68) (V : Y78) (N : Nat) (xs : LL) : TS → Option (Db × Int) := seqK (β := List Int) (fun x s1 K => roundK (denP (E36 B C A V) lv36 N (sub c36 [1, 1, 0, 1, 0, 0])) (denP (E36 B C A V) lv36 N (sub c36 [1, 1, 0, 1, 0, 1])) 20 (.dv (.sl (.int .i64)) x) s1 K) (TS.norm nm36_0) (K36_0 B C A V N) xs
noncomputable def K36_1 (B : Y22) (C : Y67) (A : Y68) (V : Y78) (N : Nat) (cx0 : Int × LL × Unit) (r2 : Int × Int × LL × Unit) (e6a : List Int) (T36_0 : TS → Option (Db × Int)) : Kont (Db × Int) := kontP (E36 B C A V) lv36 N [5, 5, 1, 2, 3] (sub c36 [1, 1, 0, 1, 0, 1]) [0, 1, 0] (kround (Sl36a cx0 r2).sl ([(5, .rcd [.dv (.sl (.int .i64)) e6a]), (5, .rcd [.dv (.sl (.int .i64)) ([] : List Int)])] ++ (Sl36a cx0 r2).ob) (TS.norm nm36_0) (K36_0 B C A V N) T36_0)
noncomputable def R36_1 (B : Y22) (C : Y67) (A : Y68) (V : Y78) (N : Nat) (cx0 : Int × LL × Unit) (r2 : Int × Int × LL × Unit) (e6a : List Int) (T36_0 : TS → Option (Db × Int)) (xs : LL) : TS → Option (Db × Int) := seqK (β := List Int) (fun x s1 K => roundK (denP (E36 B C A V) lv36 N (sub c36 [1, 1, 0, 1, 0, 1, 0, 1, 0, 0])) (denP (E36 B C A V) lv36 N (sub c36 [1, 1, 0, 1, 0, 1, 0, 1, 0, 1])) 23 (.dv (.sl (.int .i64)) x) s1 K) (TS.normP [5, 5, 1, 2, 3] nm36_1) (K36_1 B C A V N cx0 r2 e6a T36_0) xs
noncomputable def K36_2 (B : Y22) (C : Y67) (A : Y68) (V : Y78) (N : Nat) : Kont (Db × Int) := kont (E36 B C A V) lv36 N c36 [1, 1, 1, 0, 1, 0] (fin TI en36 (resOf Tryd.f36) dec36)
noncomputable def R36_2 (B : Y22) (C : Y67) (A : Y68) (V : Y78) (N : Nat) (xs : LL) : TS → Option (Db × Int) := seqK (β := List Int) (fun x s1 K => roundK (denP (E36 B C A V) lv36 N (sub c36 [1, 1, 1, 0, 1, 0, 0])) (denP (E36 B C A V) lv36 N (sub c36 [1, 1, 1, 0, 1, 0, 1])) 38 (.dv (.sl (.int .i64)) x) s1 K) (TS.norm nm36_2) (K36_2 B C A V N) xs
def l36b (B : Y22) (C : Y67) (A : Y68) (V : Y78) (N : Nat) (cx0 : Int × LL × Unit) (r3 : Int × Int × LL × Unit) : LL → Option (Db × Int)
 | [] => some ((([] : List Int), (([] : LL), ())), (14 : Int))
 | e4b :: rr => cond (decide ((e4b.length : Int) < (3 : Int))) ((l36b B C A V N cx0 r3 rr))
   (chk (decide (0 ≤ (0 : Int) ∧ (0 : Int) < (e4b.length : Int))) (chk (decide (0 ≤ (1 : Int) ∧ (1 : Int) < (e4b.length : Int))) (chk (decide (0 ≤ (0 : Int) ∧ (0 : Int) < (e4b.length : Int))) (chk (decide (0 ≤ (2 : Int) ∧ (2 : Int) < (e4b.length : Int))) (chk (decide (0 ≤ (1 : Int) ∧ (1 : Int) < (e4b.length : Int))) (chk (decide (0 ≤ (2 : Int) ∧ (2 : Int) < (e4b.length : Int))) ((V cx0 ([([e4b.getD 0 (0 : Int), e4b.getD 1 (0 : Int)] : List Int), ([e4b.getD 0 (0 : Int), e4b.getD 2 (0 : Int)] : List Int), ([e4b.getD 1 (0 : Int), e4b.getD 2 (0 : Int)] : List Int)] : LL)).bind fun r5 =>
   cond (r5.2) (some (r5.1, (0 : Int)))
   ((l36b B C A V N cx0 r3 rr)))))))))
theorem wl36b_0 (B : Y22) (C : Y67) (A : Y68) (V : Y78) (N : Nat) (cx0 : Int × LL × Unit) (r3 : Int × Int × LL × Unit) : R36_2 B C A V N [] (Sl36b cx0 r3) = some ((([] : List Int), (([] : LL), ())), (14 : Int)) := by kernel_rfl
theorem wl36b_1 (B : Y22) (C : Y67) (A : Y68) (V : Y78) (N : Nat) (cx0 : Int × LL × Unit) (r3 : Int × Int × LL × Unit) (e4b : List Int) (rr : LL) : R36_2 B C A V N (e4b :: rr) (Sl36b cx0 r3) = cond (decide ((e4b.length : Int) < (3 : Int))) ((R36_2 B C A V N rr (Sl36b cx0 r3)))
   (chk (decide (0 ≤ (0 : Int) ∧ (0 : Int) < (e4b.length : Int))) (chk (decide (0 ≤ (1 : Int) ∧ (1 : Int) < (e4b.length : Int))) (chk (decide (0 ≤ (0 : Int) ∧ (0 : Int) < (e4b.length : Int))) (chk (decide (0 ≤ (2 : Int) ∧ (2 : Int) < (e4b.length : Int))) (chk (decide (0 ≤ (1 : Int) ∧ (1 : Int) < (e4b.length : Int))) (chk (decide (0 ≤ (2 : Int) ∧ (2 : Int) < (e4b.length : Int))) ((V cx0 ([([e4b.getD 0 (0 : Int), e4b.getD 1 (0 : Int)] : List Int), ([e4b.getD 0 (0 : Int), e4b.getD 2 (0 : Int)] : List Int), ([e4b.getD 1 (0 : Int), e4b.getD 2 (0 : Int)] : List Int)] : LL)).bind fun r5 =>
   cond (r5.2) (some (r5.1, (0 : Int)))
   ((R36_2 B C A V N rr (Sl36b cx0 r3)))))))))) := by kernel_rfl
theorem ql36b (B : Y22) (C : Y67) (A : Y68) (V : Y78) (N : Nat) (cx0 : Int × LL × Unit) (r3 : Int × Int × LL × Unit) : ∀ (m : LL), R36_2 B C A V N m (Sl36b cx0 r3) = l36b B C A V N cx0 r3 m
        | [] => by rw [wl36b_0]; simp only [l36b]
        | e4b :: rr => by rw [wl36b_1]; simp only [l36b, ql36b B C A V N cx0 r3 rr]
def l36c (B : Y22) (C : Y67) (A : Y68) (V : Y78) (N : Nat) (cx0 : Int × LL × Unit) (e6a : List Int) (r7 : Int × Int × LL × Unit) (l36a' : Option (Db × Int)) : LL → Option (Db × Int)
 | [] => l36a'
 | e8c :: rr => chk ((decide (0 < e6a.length)) && (true)) ((A (some e6a)).bind fun r9 =>
   chk ((decide (0 < e8c.length)) && (true)) ((A (some e8c)).bind fun r10 =>
   (V cx0 ([r9, r10] : LL)).bind fun r11 =>
   cond (r11.2) (some (r11.1, (0 : Int)))
   ((l36c B C A V N cx0 e6a r7 l36a' rr))))
theorem wl36c_0 (B : Y22) (C : Y67) (A : Y68) (V : Y78) (N : Nat) (cx0 : Int × LL × Unit) (r2 : Int × Int × LL × Unit) (e6a : List Int) (r7 : Int × Int × LL × Unit) (T36_0 : TS → Option (Db × Int)) : R36_1 B C A V N cx0 r2 e6a T36_0 [] (Sl36c cx0 e6a r7) = (T36_0 (Sl36a cx0 r2)) := by kernel_rfl
theorem wl36c_1 (B : Y22) (C : Y67) (A : Y68) (V : Y78) (N : Nat) (cx0 : Int × LL × Unit) (r2 : Int × Int × LL × Unit) (e6a : List Int) (r7 : Int × Int × LL × Unit) (T36_0 : TS → Option (Db × Int)) (e8c : List Int) (rr : LL) : R36_1 B C A V N cx0 r2 e6a T36_0 (e8c :: rr) (Sl36c cx0 e6a r7) = chk ((decide (0 < e6a.length)) && (true)) ((A (some e6a)).bind fun r9 =>
   chk ((decide (0 < e8c.length)) && (true)) ((A (some e8c)).bind fun r10 =>
   (V cx0 ([r9, r10] : LL)).bind fun r11 =>
   cond (r11.2) (some (r11.1, (0 : Int)))
   ((R36_1 B C A V N cx0 r2 e6a T36_0 rr (Sl36c cx0 e6a r7))))) := by kernel_rfl
theorem ql36c (B : Y22) (C : Y67) (A : Y68) (V : Y78) (N : Nat) (cx0 : Int × LL × Unit) (r2 : Int × Int × LL × Unit) (e6a : List Int) (r7 : Int × Int × LL × Unit) (T36_0 : TS → Option (Db × Int)) : ∀ (m : LL), R36_1 B C A V N cx0 r2 e6a T36_0 m (Sl36c cx0 e6a r7) = l36c B C A V N cx0 e6a r7 (T36_0 (Sl36a cx0 r2)) m
        | [] => by rw [wl36c_0]; simp only [l36c]
        | e8c :: rr => by rw [wl36c_1]; simp only [l36c, ql36c B C A V N cx0 r2 e6a r7 T36_0 rr]
def l36a (B : Y22) (C : Y67) (A : Y68) (V : Y78) (N : Nat) (cx0 : Int × LL × Unit) (r2 : Int × Int × LL × Unit) : LL → Option (Db × Int)
 | [] => (C cx0 (3 : Int)).bind fun r3 =>
   chk (decide (0 ≤ r3.1 ∧ ((List.length r3.2.2.1 : Nat) : Int) * 8 ≤ 140737488355328)) ((l36b B C A V N cx0 r3 (gr (List.length r3.2.2.1) (Int.toNat r3.1) [] 0)))
 | e6a :: rr => (C cx0 (2 : Int)).bind fun r7 =>
   chk (decide (0 ≤ r7.1 ∧ ((List.length r7.2.2.1 : Nat) : Int) * 8 ≤ 140737488355328)) ((l36c B C A V N cx0 e6a r7 (l36a B C A V N cx0 r2 rr) (gr (List.length r7.2.2.1) (Int.toNat r7.1) [] 0)))
theorem wl36a_0 (B : Y22) (C : Y67) (A : Y68) (V : Y78) (N : Nat) (cx0 : Int × LL × Unit) (r2 : Int × Int × LL × Unit) : R36_0 B C A V N [] (Sl36a cx0 r2) = (C cx0 (3 : Int)).bind fun r3 =>
   chk (decide (0 ≤ r3.1 ∧ ((List.length r3.2.2.1 : Nat) : Int) * 8 ≤ 140737488355328)) ((R36_2 B C A V N (gr (List.length r3.2.2.1) (Int.toNat r3.1) [] 0) (Sl36b cx0 r3))) := by kernel_rfl
theorem wl36a_1 (B : Y22) (C : Y67) (A : Y68) (V : Y78) (N : Nat) (cx0 : Int × LL × Unit) (r2 : Int × Int × LL × Unit) (e6a : List Int) (rr : LL) : R36_0 B C A V N (e6a :: rr) (Sl36a cx0 r2) = (C cx0 (2 : Int)).bind fun r7 =>
   chk (decide (0 ≤ r7.1 ∧ ((List.length r7.2.2.1 : Nat) : Int) * 8 ≤ 140737488355328)) ((R36_1 B C A V N cx0 r2 e6a (R36_0 B C A V N rr) (gr (List.length r7.2.2.1) (Int.toNat r7.1) [] 0) (Sl36c cx0 e6a r7))) := by kernel_rfl
theorem ql36a (B : Y22) (C : Y67) (A : Y68) (V : Y78) (N : Nat) (cx0 : Int × LL × Unit) (r2 : Int × Int × LL × Unit) : ∀ (m : LL), R36_0 B C A V N m (Sl36a cx0 r2) = l36a B C A V N cx0 r2 m
        | [] => by rw [wl36a_0]; simp only [l36a, ql36b]
        | e6a :: rr => by rw [wl36a_1]; simp only [l36a, ql36c, ql36a B C A V N cx0 r2 rr]
def m36 (B : Y22) (C : Y67) (A : Y68) (V : Y78) (N : Nat) (cx0 : Int × LL × Unit) : Option (Db × Int) :=
   (B cx0).bind fun r1 =>
   cond (r1 != (0 : Int)) (some ((([] : List Int), (([] : LL), ())), r1))
   ((C cx0 (2 : Int)).bind fun r2 =>
   chk (decide (0 ≤ r2.1 ∧ ((List.length r2.2.2.1 : Nat) : Int) * 8 ≤ 140737488355328)) ((l36a B C A V N cx0 r2 (gr (List.length r2.2.2.1) (Int.toNat r2.1) [] 0))))
theorem wm36 (B : Y22) (C : Y67) (A : Y68) (V : Y78) (N : Nat) (cx0 : Int × LL × Unit) : callF (E36 B C A V) lv36 N en36 c36 (resOf Tryd.f36) 71 [.dv (.pair (.int .i64) (.pair (.sl (.sl (.int .i64))) (.unit))) cx0] [] dec36 = (B cx0).bind fun r1 =>
   cond (r1 != (0 : Int)) (some ((([] : List Int), (([] : LL), ())), r1))
   ((C cx0 (2 : Int)).bind fun r2 =>
   chk (decide (0 ≤ r2.1 ∧ ((List.length r2.2.2.1 : Nat) : Int) * 8 ≤ 140737488355328)) ((R36_0 B C A V N (gr (List.length r2.2.2.1) (Int.toNat r2.1) [] 0) (Sl36a cx0 r2)))) := by kernel_rfl
theorem k36 (B : Y22) (C : Y67) (A : Y68) (V : Y78) (N : Nat) (cx0 : Int × LL × Unit) : callF (E36 B C A V) lv36 N en36 c36 (resOf Tryd.f36) 71 [.dv (.pair (.int .i64) (.pair (.sl (.sl (.int .i64))) (.unit))) cx0] [] dec36 = m36 B C A V N cx0 := by rw [wm36]; simp only [m36, ql36a]
theorem ok36 (B : Y22) (C : Y67) (A : Y68) (V : Y78) (h22 : FnOk Tryd.prog 22 (F22 B)) (h67 : FnOk Tryd.prog 67 (F67 C)) (h68 : FnOk Tryd.prog 68 (F68 A)) (h78 : FnOk Tryd.prog 78 (F78 V)) (a : Y36) (h : ∀ cx0 r, a cx0 = some r → (∃ N, m36 B C A V N cx0 = some r)) : FnOk Tryd.prog 36 (F36 a) := by
 intro args Of x hx
 simp only [F36] at hx
 split at hx
 ·rename_i cx0
  obtain ⟨N, hN⟩ := h _ _ hx
  refine liftedQ (L := [(22, F22 B), (67, F67 C), (68, F68 A), (78, F78 V)]) (rc := (fun i => ([(5, [some (.sl (.int .i64))])] : List (Nat × List (Option DT))).lookup i)) (fz := nfz) (fn := Tryd.f36) (by kernel_rfl) (by kernel_rfl) (by kernel_rfl) (by kernel_rfl) rfl ?_ coalSeq_ok ((k36 B C A V N _).trans hN) ?_
  ·intro p hp; simp only [List.mem_cons, List.not_mem_nil, or_false] at hp; rcases hp with rfl | rfl | rfl | rfl
   ·exact h22
   ·exact h67
   ·exact h68
   ·exact h78
  ·intro l o hd
   simp only [dec36] at hd
   split at hd
   ·obtain rfl := oij hd; exact ⟨rfl, rfl⟩
   ·cases hd
 ·cases hx
def E38 (M : Y55) (D : Y59) (G : Y66) (want0 : Int) : Env := mkEw TI TY [(55, F55 M), (59, F59 D), (66, F66 G)] nrc nfz (fun i => ([] : List (Nat × Nat)).lookup i)
noncomputable def c38 : Code := bodyOf Tryd.f38
def nm38_0 : Norm := ⟨[2, 3, 6, 34, 35, 36], [2, 3, 32], [], []⟩
def nm38_1 : Norm := ⟨[2, 3, 6, 34, 35, 36, 58, 59, 60], [2, 3, 32], [], []⟩
def nm38_2 : Norm := ⟨[3, 71], [3, 71], [], []⟩
def lv38 : Nat → Option Norm := norms [(10, nm38_0), (20, nm38_1), (26, nm38_2)]
def en38 : End := ⟨[], ⟨[81], [], [], []⟩⟩
def dec38 (want0 : Int) (l : List TV) (o : List (Nat × TO)) : Option Unit := match l, o with | [.dv (.int .i64) x0], [] => chk (decide (x0 = want0)) (some ()) | _, _ => none
def Sl38b (cx0 : Int × LL × Unit) (d1 : List Int × LL × Unit) (t36_a : Int) (t60_b : Int) (o32_b : Wm0T2) : TS := ⟨slots 81 [(2, .ptr 2 0 []), (3, .ptr 3 0 []), (6, .row 32), (34, .dv (.sl (.sl (.int .i64))) d1.2.1), (35, .dv (.int .i64) (d1.2.1.length : Int)), (36, .dv (.int .i64) t36_a), (58, .dv (.sl (.int .i64)) (d1.2.1.getD t36_a.toNat ([] : List Int))), (59, .dv (.int .i64) ((d1.2.1.getD t36_a.toNat ([] : List Int)).length : Int)), (60, .dv (.int .i64) t60_b)], [(2, .row (.pair (.int .i64) (.pair (.sl (.sl (.int .i64))) (.unit))) ([cx0] : List Cd)), (3, .row (.pair (.sl (.int .i64)) (.pair (.sl (.sl (.int .i64))) (.unit))) ([d1] : List Db)), (32, .map (.int .i64) (.int .i64) o32_b)]⟩
def Sl38c (d1 : List Int × LL × Unit) (o71_c : Wm0T2) : TS := ⟨slots 81 [(3, .ptr 3 0 []), (71, .row 71)], [(3, .row (.pair (.sl (.int .i64)) (.pair (.sl (.sl (.int .i64))) (.unit))) ([d1] : List Db)), (71, .iter (.int .i64) (.int .i64) o71_c none)]⟩
def Sl38a (cx0 : Int × LL × Unit) (d1 : List Int × LL × Unit) (t36_a : Int) (o32_a : Wm0T2) : TS := ⟨slots 81 [(2, .ptr 2 0 []), (3, .ptr 3 0 []), (6, .row 32), (34, .dv (.sl (.sl (.int .i64))) d1.2.1), (35, .dv (.int .i64) (d1.2.1.length : Int)), (36, .dv (.int .i64) t36_a)], [(2, .row (.pair (.int .i64) (.pair (.sl (.sl (.int .i64))) (.unit))) ([cx0] : List Cd)), (3, .row (.pair (.sl (.int .i64)) (.pair (.sl (.sl (.int .i64))) (.unit))) ([d1] : List Db)), (32, .map (.int .i64) (.int .i64) o32_a)]⟩
noncomputable def K38_0 (M : Y55) (D : Y59) (G : Y66) (want0 : Int) (N : Nat) : Kont (Unit) := kont (E38 M D G want0) lv38 N c38 [1, 1, 1, 1, 0, 1, 0] (fin TI en38 (resOf Tryd.f38) (dec38 want0))
noncomputable def R38_0 (M : Y55) (D : Y59) (G : Y66) (want0 : Int) (N : Nat) (m : Nat) : TS → Option (Unit) := loopK (den (E38 M D G want0) lv38 N (sub c38 [1, 1, 1, 1, 0, 1, 0, 0])) (TS.norm nm38_0) (K38_0 M D G want0 N) m
noncomputable def K38_1 (M : Y55) (D : Y59) (G : Y66) (want0 : Int) (N : Nat) (T38_0 : TS → Option (Unit)) : Kont (Unit) := kont (E38 M D G want0) lv38 N (sub c38 [1, 1, 1, 1, 0, 1, 0, 0]) [1, 1, 0, 0, 1, 1, 1, 1, 0] (kloop (TS.norm nm38_0) (K38_0 M D G want0 N) T38_0)
noncomputable def R38_1 (M : Y55) (D : Y59) (G : Y66) (want0 : Int) (N : Nat) (T38_0 : TS → Option (Unit)) (m : Nat) : TS → Option (Unit) := loopK (den (E38 M D G want0) lv38 N (sub c38 [1, 1, 1, 1, 0, 1, 0, 0, 1, 1, 0, 0, 1, 1, 1, 1, 0, 0])) (TS.norm nm38_1) (K38_1 M D G want0 N T38_0) m
noncomputable def K38_2 (M : Y55) (D : Y59) (G : Y66) (want0 : Int) (N : Nat) : Kont (Unit) := kont (E38 M D G want0) lv38 N c38 [1, 1, 1, 1, 1, 0, 1, 0] (fin TI en38 (resOf Tryd.f38) (dec38 want0))
noncomputable def R38_2 (M : Y55) (D : Y59) (G : Y66) (want0 : Int) (N : Nat) (m : Nat) : TS → Option (Unit) := loopK (den (E38 M D G want0) lv38 N (sub c38 [1, 1, 1, 1, 1, 0, 1, 0, 0])) (TS.norm nm38_2) (K38_2 M D G want0 N) m
def l38b (M : Y55) (D : Y59) (G : Y66) (want0 : Int) (N : Nat) (cx0 : Int × LL × Unit) (d1 : List Int × LL × Unit) (t36_a : Int) (l38a' : Int → (List (Int × Int)) → Option (Unit)) : Nat → Int → (List (Int × Int)) → Option (Unit)
 | 0, _, _ => none
 | n + 1, t60_b, o32_b => cond (decide (t60_b < ((d1.2.1.getD t36_a.toNat ([] : List Int)).length : Int))) (chk (decide (0 ≤ t60_b ∧ t60_b < ((d1.2.1.getD t36_a.toNat ([] : List Int)).length : Int))) ((l38b M D G want0 N cx0 d1 t36_a l38a' n (w64 (t60_b + 1)) (mput (kt := .int .i64) (vt := .int .i64) o32_b ((d1.2.1.getD t36_a.toNat ([] : List Int)).getD t60_b.toNat 0) (w64 (((mget (kt := .int .i64) (vt := .int .i64) o32_b ((d1.2.1.getD t36_a.toNat ([] : List Int)).getD t60_b.toNat 0)).getD (0 : Int)) + 1))))))
   ((l38a' (w64 (t36_a + 1)) o32_b))
theorem wl38b (M : Y55) (D : Y59) (G : Y66) (want0 : Int) (N : Nat) (cx0 : Int × LL × Unit) (d1 : List Int × LL × Unit) (t36_a : Int) (T38_0 : TS → Option (Unit)) (m : Nat) (t60_b : Int) (o32_b : Wm0T2) : R38_1 M D G want0 N T38_0 (m + 1) (Sl38b cx0 d1 t36_a t60_b o32_b) = cond (decide (t60_b < ((d1.2.1.getD t36_a.toNat ([] : List Int)).length : Int))) (chk (decide (0 ≤ t60_b ∧ t60_b < ((d1.2.1.getD t36_a.toNat ([] : List Int)).length : Int))) ((R38_1 M D G want0 N T38_0 m (Sl38b cx0 d1 t36_a (w64 (t60_b + 1)) (mput (kt := .int .i64) (vt := .int .i64) o32_b ((d1.2.1.getD t36_a.toNat ([] : List Int)).getD t60_b.toNat 0) (w64 (((mget (kt := .int .i64) (vt := .int .i64) o32_b ((d1.2.1.getD t36_a.toNat ([] : List Int)).getD t60_b.toNat 0)).getD (0 : Int)) + 1)))))))
   ((T38_0 (Sl38a cx0 d1 (w64 (t36_a + 1)) o32_b))) := by kernel_rfl
theorem ql38b (M : Y55) (D : Y59) (G : Y66) (want0 : Int) (N : Nat) (cx0 : Int × LL × Unit) (d1 : List Int × LL × Unit) (t36_a : Int) (T38_0 : TS → Option (Unit)) : ∀ (m : Nat) (t60_b : Int) (o32_b : Wm0T2), R38_1 M D G want0 N T38_0 m (Sl38b cx0 d1 t36_a t60_b o32_b) = l38b M D G want0 N cx0 d1 t36_a (fun y0 y1 => T38_0 (Sl38a cx0 d1 y0 y1)) m t60_b o32_b
        | 0, _, _ => rfl
        | m + 1, t60_b, o32_b => by rw [wl38b]; simp only [l38b, ql38b M D G want0 N cx0 d1 t36_a T38_0 m]
def l38c (M : Y55) (D : Y59) (G : Y66) (want0 : Int) (N : Nat) (d1 : List Int × LL × Unit) : Nat → (List (Int × Int)) → Option (Unit)
 | 0, _ => none
 | n + 1, o71_c => eachK o71_c (chk (decide ((0 : Int) = want0)) (some ())) (fun h4 => fun g5 =>
   cond (h4.2 == (d1.2.1.length : Int)) (chk (decide ((12 : Int) = want0)) (some ()))
   ((l38c M D G want0 N d1 n g5)))
theorem wl38c (M : Y55) (D : Y59) (G : Y66) (want0 : Int) (N : Nat) (d1 : List Int × LL × Unit) (m : Nat) (o71_c : Wm0T2) : R38_2 M D G want0 N (m + 1) (Sl38c d1 o71_c) = eachK o71_c (chk (decide ((0 : Int) = want0)) (some ())) (fun h4 => fun g5 =>
   cond (h4.2 == (d1.2.1.length : Int)) (chk (decide ((12 : Int) = want0)) (some ()))
   ((R38_2 M D G want0 N m (Sl38c d1 g5)))) := by kernel_rfl
theorem ql38c (M : Y55) (D : Y59) (G : Y66) (want0 : Int) (N : Nat) (d1 : List Int × LL × Unit) : ∀ (m : Nat) (o71_c : Wm0T2), R38_2 M D G want0 N m (Sl38c d1 o71_c) = l38c M D G want0 N d1 m o71_c
        | 0, _ => rfl
        | m + 1, o71_c => by rw [wl38c]; simp only [l38c, ql38c M D G want0 N d1 m]
def l38a (M : Y55) (D : Y59) (G : Y66) (want0 : Int) (N : Nat) (cx0 : Int × LL × Unit) (d1 : List Int × LL × Unit) : Nat → Int → (List (Int × Int)) → Option (Unit)
 | 0, _, _ => none
 | n + 1, t36_a, o32_a => cond (decide (t36_a < (d1.2.1.length : Int))) (chk (decide (0 ≤ t36_a ∧ t36_a < (d1.2.1.length : Int))) ((M cx0 (d1.2.1.getD t36_a.toNat ([] : List Int))).bind fun r2 =>
   cond (r2 != (0 : Int)) (chk (decide (r2 = want0)) (some ()))
   (cond (decide (((d1.2.1.getD t36_a.toNat ([] : List Int)).length : Int) > (2 : Int))) (chk (decide ((2 : Int) = want0)) (some ()))
   ((D cx0 (d1.2.1.getD t36_a.toNat ([] : List Int)) d1.1).bind fun r3 =>
   cond (!r3) (chk (decide ((13 : Int) = want0)) (some ()))
   ((l38b M D G want0 N cx0 d1 t36_a (fun y0 y1 => (l38a M D G want0 N cx0 d1 n y0 y1)) N (0 : Int) o32_a))))))
   ((l38c M D G want0 N d1 N o32_a))
theorem wl38a (M : Y55) (D : Y59) (G : Y66) (want0 : Int) (N : Nat) (cx0 : Int × LL × Unit) (d1 : List Int × LL × Unit) (m : Nat) (t36_a : Int) (o32_a : Wm0T2) : R38_0 M D G want0 N (m + 1) (Sl38a cx0 d1 t36_a o32_a) = cond (decide (t36_a < (d1.2.1.length : Int))) (chk (decide (0 ≤ t36_a ∧ t36_a < (d1.2.1.length : Int))) ((M cx0 (d1.2.1.getD t36_a.toNat ([] : List Int))).bind fun r2 =>
   cond (r2 != (0 : Int)) (chk (decide (r2 = want0)) (some ()))
   (cond (decide (((d1.2.1.getD t36_a.toNat ([] : List Int)).length : Int) > (2 : Int))) (chk (decide ((2 : Int) = want0)) (some ()))
   ((D cx0 (d1.2.1.getD t36_a.toNat ([] : List Int)) d1.1).bind fun r3 =>
   cond (!r3) (chk (decide ((13 : Int) = want0)) (some ()))
   ((R38_1 M D G want0 N (R38_0 M D G want0 N m) N (Sl38b cx0 d1 t36_a (0 : Int) o32_a)))))))
   ((R38_2 M D G want0 N N (Sl38c d1 o32_a))) := by kernel_rfl
theorem ql38a (M : Y55) (D : Y59) (G : Y66) (want0 : Int) (N : Nat) (cx0 : Int × LL × Unit) (d1 : List Int × LL × Unit) : ∀ (m : Nat) (t36_a : Int) (o32_a : Wm0T2), R38_0 M D G want0 N m (Sl38a cx0 d1 t36_a o32_a) = l38a M D G want0 N cx0 d1 m t36_a o32_a
        | 0, _, _ => rfl
        | m + 1, t36_a, o32_a => by rw [wl38a]; simp only [l38a, ql38b, ql38c, ql38a M D G want0 N cx0 d1 m]
def m38 (M : Y55) (D : Y59) (G : Y66) (want0 : Int) (N : Nat) (cx0 : Int × LL × Unit) (d1 : List Int × LL × Unit) : Option (Unit) :=
   (G cx0 d1.1).bind fun r1 =>
   cond (r1 != (0 : Int)) (chk (decide (r1 = want0)) (some ()))
   (cond ((d1.2.1.length : Int) == (0 : Int)) (chk (decide ((1 : Int) = want0)) (some ()))
   (cond (decide ((d1.2.1.length : Int) > (10 : Int))) (chk (decide ((2 : Int) = want0)) (some ()))
   ((l38a M D G want0 N cx0 d1 N (0 : Int) ([] : List (Int × Int))))))
theorem wm38 (M : Y55) (D : Y59) (G : Y66) (want0 : Int) (N : Nat) (cx0 : Int × LL × Unit) (d1 : List Int × LL × Unit) : callF (E38 M D G want0) lv38 N en38 c38 (resOf Tryd.f38) 79 [.dv (.pair (.int .i64) (.pair (.sl (.sl (.int .i64))) (.unit))) cx0, .dv (.pair (.sl (.int .i64)) (.pair (.sl (.sl (.int .i64))) (.unit))) d1] [] (dec38 want0) = (G cx0 d1.1).bind fun r1 =>
   cond (r1 != (0 : Int)) (chk (decide (r1 = want0)) (some ()))
   (cond ((d1.2.1.length : Int) == (0 : Int)) (chk (decide ((1 : Int) = want0)) (some ()))
   (cond (decide ((d1.2.1.length : Int) > (10 : Int))) (chk (decide ((2 : Int) = want0)) (some ()))
   ((R38_0 M D G want0 N N (Sl38a cx0 d1 (0 : Int) ([] : List (Int × Int))))))) := by kernel_rfl
theorem k38 (M : Y55) (D : Y59) (G : Y66) (want0 : Int) (N : Nat) (cx0 : Int × LL × Unit) (d1 : List Int × LL × Unit) : callF (E38 M D G want0) lv38 N en38 c38 (resOf Tryd.f38) 79 [.dv (.pair (.int .i64) (.pair (.sl (.sl (.int .i64))) (.unit))) cx0, .dv (.pair (.sl (.int .i64)) (.pair (.sl (.sl (.int .i64))) (.unit))) d1] [] (dec38 want0) = m38 M D G want0 N cx0 d1 := by rw [wm38]; simp only [m38, ql38a]
theorem ok38 (M : Y55) (D : Y59) (G : Y66) (h55 : FnOk Tryd.prog 55 (F55 M)) (h59 : FnOk Tryd.prog 59 (F59 D)) (h66 : FnOk Tryd.prog 66 (F66 G)) (a : Y38) (h : ∀ cx0 d1 r, a cx0 d1 = some r → ∃ N, m38 M D G r N cx0 d1 = some ()) : FnOk Tryd.prog 38 (F38 a) := by
 intro args Of r hx
 simp only [F38] at hx
 split at hx
 ·rename_i cx0 d1
  obtain ⟨N, hN⟩ := h _ _ _ hx
  refine liftedW (L := [(55, F55 M), (59, F59 D), (66, F66 G)]) (rc := nrc) (fz := nfz) (tw := fun i => ([] : List (Nat × Nat)).lookup i) (fn := Tryd.f38) (by kernel_rfl) (by kernel_rfl) (by kernel_rfl) (by kernel_rfl) rfl ?_ ((k38 M D G r N _ _).trans hN) ?_
  ·intro p hp; simp only [List.mem_cons, List.not_mem_nil, or_false] at hp; rcases hp with rfl | rfl | rfl
   ·exact h55
   ·exact h59
   ·exact h66
  ·intro l o hd
   simp only [dec38] at hd
   split at hd
   ·have hq := (chk_some hd).1
    simp only [dtq] at hq
    subst hq
    exact ⟨rfl, rfl⟩
   ·cases hd
 ·cases hx
def E49 : Env := mkE TI TY [] nrc nfz
noncomputable def c49 : Code := bodyOf Tryd.f49
def lv49 : Nat → Option Norm := norms []
def en49 : End := ⟨[(7, .pair (.int .i64) (.pair (.sl (.sl (.int .i64))) (.unit)))], ⟨[7], [], [], []⟩⟩
def dec49 (l : List TV) (o : List (Nat × TO)) : Option Cd := match l, o with | [.dv (.pair (.int .i64) (.pair (.sl (.sl (.int .i64))) (.unit))) x0], [] => some (x0) | _, _ => none
def m49 (N : Nat) : Option Cd :=
   some ((2 : Int), (([([(0 : Int), (0 : Int)] : List Int), ([(0 : Int), (1 : Int)] : List Int), ([(1 : Int), (0 : Int)] : List Int), ([(1 : Int), (1 : Int)] : List Int)] : LL), ()))
theorem k49 (N : Nat) : callF (E49) lv49 N en49 c49 (resOf Tryd.f49) 7 [] [] dec49 = m49 N := by kernel_rfl
theorem ok49 (a : Y49) (h : ∀ r, a = some r → (∃ N, m49 N = some r)) : FnOk Tryd.prog 49 (F49 a) := by
 intro args Of x hx
 simp only [F49] at hx
 split at hx
 ·skip
  obtain ⟨N, hN⟩ := h _ hx
  refine lifted (L := []) (rc := nrc) (fz := nfz) (fn := Tryd.f49) (by kernel_rfl) (by kernel_rfl) (by kernel_rfl) (by kernel_rfl) rfl ?_ ((k49 N).trans hN) ?_
  ·intro p hp; cases hp
  ·intro l o hd
   simp only [dec49] at hd
   split at hd
   ·obtain rfl := oij hd; exact ⟨rfl, rfl⟩
   ·cases hd
 ·cases hx
def E50 : Env := mkE TI TY [] nrc nfz
noncomputable def c50 : Code := bodyOf Tryd.f50
def lv50 : Nat → Option Norm := norms []
def en50 : End := ⟨[(4, .sl (.int .i64))], ⟨[4], [], [], []⟩⟩
def dec50 (l : List TV) (o : List (Nat × TO)) : Option (List Int) := match l, o with | [.dv (.sl (.int .i64)) x0], [] => some (x0) | _, _ => none
def m50 (N : Nat) (lx0 : List Int) : Option (List Int) :=
   some lx0
theorem k50 (N : Nat) (lx0 : List Int) : callF (E50) lv50 N en50 c50 (resOf Tryd.f50) 3 [.dv (.sl (.int .i64)) lx0] [] dec50 = m50 N lx0 := by kernel_rfl
theorem ok50 (a : Y50) (h : ∀ lx0 r, a lx0 = some r → (∃ N, m50 N lx0 = some r)) : FnOk Tryd.prog 50 (F50 a) := by
 intro args Of x hx
 simp only [F50] at hx
 split at hx
 ·rename_i lx0
  obtain ⟨N, hN⟩ := h _ _ hx
  refine lifted (L := []) (rc := nrc) (fz := nfz) (fn := Tryd.f50) (by kernel_rfl) (by kernel_rfl) (by kernel_rfl) (by kernel_rfl) rfl ?_ ((k50 N _).trans hN) ?_
  ·intro p hp; cases hp
  ·intro l o hd
   simp only [dec50] at hd
   split at hd
   ·obtain rfl := oij hd; exact ⟨rfl, rfl⟩
   ·cases hd
 ·cases hx
def E51 : Env := mkE TI TY [] nrc nfz
noncomputable def c51 : Code := bodyOf Tryd.f51
def lv51 : Nat → Option Norm := norms []
def en51 : End := ⟨[(6, .pair (.int .i64) (.pair (.sl (.sl (.int .i64))) (.unit)))], ⟨[6], [], [], []⟩⟩
def dec51 (l : List TV) (o : List (Nat × TO)) : Option Cd := match l, o with | [.dv (.pair (.int .i64) (.pair (.sl (.sl (.int .i64))) (.unit))) x0], [] => some (x0) | _, _ => none
def m51 (N : Nat) : Option Cd :=
   some ((3 : Int), (([([(0 : Int), (0 : Int), (0 : Int)] : List Int), ([(1 : Int), (1 : Int), (1 : Int)] : List Int), ([(2 : Int), (2 : Int), (2 : Int)] : List Int)] : LL), ()))
theorem k51 (N : Nat) : callF (E51) lv51 N en51 c51 (resOf Tryd.f51) 6 [] [] dec51 = m51 N := by kernel_rfl
theorem ok51 (a : Y51) (h : ∀ r, a = some r → (∃ N, m51 N = some r)) : FnOk Tryd.prog 51 (F51 a) := by
 intro args Of x hx
 simp only [F51] at hx
 split at hx
 ·skip
  obtain ⟨N, hN⟩ := h _ hx
  refine lifted (L := []) (rc := nrc) (fz := nfz) (fn := Tryd.f51) (by kernel_rfl) (by kernel_rfl) (by kernel_rfl) (by kernel_rfl) rfl ?_ ((k51 N).trans hN) ?_
  ·intro p hp; cases hp
  ·intro l o hd
   simp only [dec51] at hd
   split at hd
   ·obtain rfl := oij hd; exact ⟨rfl, rfl⟩
   ·cases hd
 ·cases hx
end Go.Proofs.YtbjfbbfglkmadaaDoor
