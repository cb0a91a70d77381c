/-
 The functions that the examples of the chapter reaches, told as plain functions.
-/
import Derived.Test.YtplbdongegfdnaaQFI
namespace Go.Proofs.Ytplbdongegfdnaa
open Go.RowKit
set_option linter.unusedVariables false
abbrev w0Z0 : DT := .sl (.int .i64)
abbrev w0Z1 : List Bool := [false, false, false, false, false, false, false, false, false, false]
abbrev w0Z2 : DT := .pair (.int .i64) (.pair (.sl w0Z0) (.unit))
abbrev Wm0T0 := Int → Int → Int → Option (Bool)
abbrev Wm0T1 := Int → Int → LL → Option (Int × LL)
abbrev Wm0T2 := Int → (List Int) → LL → Option (Int × LL)
abbrev Wm0T3 := (List Int) → Int → Option (Bool × Int)
abbrev Wm0T4 := LL → Int → Option (Int × Int)
abbrev Wm0T5 := Int → Int → Option (Bool × Int)
abbrev Wm0T6 := Int → Option (List Int)
abbrev Wm0T7 := LL → Int → Option (Bool × Int)
abbrev Wm0T8 := Int → LL → Option (Bool × LL)
abbrev Wm0T9 := (List Int) → LL → Option (Int × LL)
abbrev Wm0T10 := (List Int) → LL → Option (Bool × LL)
abbrev Wm0T11 := LL → Int → (List Int) → Option (Int)
abbrev Wm0T12 := LL → (List Int) → Option (Int)
abbrev Wm0T13 := LL → (List Int) → Option (Int × Int)
abbrev Wm0T14 := (List Int) → Int → Option (Int)
abbrev Wm0T15 := Int → Int → Option (Int)
abbrev Wm0T16 := Int → (List (Int × LL × Unit)) → Option (Bool × List (Int × LL × Unit))
abbrev Wm0T17 := List (Int × LL × Unit)
abbrev Wm0T18 := (List Int) → (List (Int × LL × Unit)) → Option (Int × List (Int × LL × Unit))
abbrev Wm0T19 := (List Int) → (List (Int × LL × Unit)) → Option (Bool × List (Int × LL × Unit))
abbrev Wm0T20 := Int → Int → Option (Bool)
abbrev Wm0T21 := (List Int) → Option (Int)
abbrev Wm0T22 := Int → (Int ⊕ ((List Int) ⊕ Unit)) → Option (Int)
abbrev Wm0T23 := (Int × LL × Unit) → Int → Option (Int ⊕ ((List Int) ⊕ Unit))
abbrev Wm0T24 := (List Int) → Option (List Int)
abbrev Wm0T25 := (Int × LL × Unit) → Option (Int)
abbrev Wm0T26 := (Int × LL × Unit) → (List Int) → Option (Int × Int)
abbrev Wm0T27 := (Int × LL × Unit) → Int → Option (List Int × Bool)
abbrev Wm0T28 := Int → Int → Option (LL × Int)
abbrev Wm0T29 := (Int × LL × Unit) → (List Int) → Option (List Int × Int)
def E41 : Env := mkE TI TY [] nrc nfz
noncomputable def c41 : Code := bodyOf Try.f41
def lv41 : Nat → Option Norm := norms []
def en41 : End := ⟨[], ⟨[15], [], [], []⟩⟩
def dec41 (l : List TV) (o : List (Nat × TO)) : Option (Bool) := match l, o with | [.dv (.bool) x0], [] => some (x0) | _, _ => none
def m41 (N : Nat) (lo0 : Int) (n1 : Int) (hi2 : Int) : Option (Bool) :=
   cond (decide (lo0 ≤ n1)) (some (decide (n1 ≤ hi2)))
   (some false)
theorem k41 (N : Nat) (lo0 : Int) (n1 : Int) (hi2 : Int) : callF (E41) lv41 N en41 c41 (resOf Try.f41) 12 [.dv (.int .i64) lo0, .dv (.int .i64) n1, .dv (.int .i64) hi2] [] dec41 = m41 N lo0 n1 hi2 := by kernel_rfl
theorem ok41 (a : Int → Int → Int → Option (Bool)) (h : ∀ lo0 n1 hi2 r, a lo0 n1 hi2 = some r → (∃ N, m41 N lo0 n1 hi2 = some r)) : FnOk Try.prog 41 (F41 a) := by
 intro args Of x hx
 simp only [F41] at hx
 split at hx
 ·rename_i lo0 n1 hi2
  obtain ⟨N, hN⟩ := h _ _ _ _ hx
  refine lifted (L := []) (rc := nrc) (fz := nfz) (fn := Try.f41) (by kernel_rfl) (by kernel_rfl) (by kernel_rfl) (by kernel_rfl) rfl ?_ ((k41 N _ _ _).trans hN) ?_
  ·intro p hp; cases hp
  ·intro l o hd
   simp only [dec41] at hd
   split at hd
   ·obtain rfl := oij hd; exact ⟨rfl, rfl⟩
   ·cases hd
 ·cases hx
def E45 (H : Wm0T0) : Env := mkE TI TY [(41, F41 H)] nrc nfz
noncomputable def c45 : Code := bodyOf Try.f45
def nm45_0 : Norm := ⟨[0, 1, 6, 16, 17], [], [], []⟩
def nm45_1 : Norm := ⟨[1, 6, 24, 25], [], [], []⟩
def lv45 : Nat → Option Norm := norms [(5, nm45_0), (9, nm45_1)]
def en45 : End := ⟨[], ⟨[32, 33], [], [], []⟩⟩
def dec45 (l : List TV) (o : List (Nat × TO)) : Option (Int × Int) := match l, o with | [.dv (.int .i64) x0, .dv (.int .i64) x1], [] => some (x0, x1) | _, _ => none
def Sl45b (rows0 : Int) (columns1 : Int) (n6_b : Int) (t25_b : Int) : TS := ⟨slots 32 [(1, .dv (.int .i64) columns1), (6, .dv (.int .i64) n6_b), (24, .dv (.int .i64) (w64 (rows0 - (1 : Int)))), (25, .dv (.int .i64) t25_b)], []⟩
def Sl45a (rows0 : Int) (columns1 : Int) (n6_a : Int) (t17_a : Int) : TS := ⟨slots 32 [(0, .dv (.int .i64) rows0), (1, .dv (.int .i64) columns1), (6, .dv (.int .i64) n6_a), (16, .dv (.int .i64) (w64 (columns1 - (1 : Int)))), (17, .dv (.int .i64) t17_a)], []⟩
noncomputable def K45_0 (H : Wm0T0) (N : Nat) : Kont (Int × Int) := kont (E45 H) lv45 N c45 [1, 1, 1, 0, 1, 0] (fin TI en45 (resOf Try.f45) dec45)
noncomputable def R45_0 (H : Wm0T0) (N : Nat) (m : Nat) : TS → Option (Int × Int) := loopK (den (E45 H) lv45 N (sub c45 [1, 1, 1, 0, 1, 0, 0])) (TS.norm nm45_0) (K45_0 H N) m
noncomputable def K45_1 (H : Wm0T0) (N : Nat) : Kont (Int × Int) := kont (E45 H) lv45 N c45 [1, 1, 1, 1, 0, 1, 0] (fin TI en45 (resOf Try.f45) dec45)
noncomputable def R45_1 (H : Wm0T0) (N : Nat) (m : Nat) : TS → Option (Int × Int) := loopK (den (E45 H) lv45 N (sub c45 [1, 1, 1, 1, 0, 1, 0, 0])) (TS.norm nm45_1) (K45_1 H N) m
def l45b (H : Wm0T0) (N : Nat) (rows0 : Int) (columns1 : Int) : Nat → Int → Int → Option (Int × Int)
 | 0, _, _ => none
 | n + 1, n6_b, t25_b => cond (decide (t25_b < (w64 (rows0 - (1 : Int))))) ((l45b H N rows0 columns1 n (w64 (n6_b * columns1)) (w64 (t25_b + 1))))
   (some (n6_b, (0 : Int)))
theorem wl45b (H : Wm0T0) (N : Nat) (rows0 : Int) (columns1 : Int) (m : Nat) (n6_b : Int) (t25_b : Int) : R45_1 H N (m + 1) (Sl45b rows0 columns1 n6_b t25_b) = cond (decide (t25_b < (w64 (rows0 - (1 : Int))))) ((R45_1 H N m (Sl45b rows0 columns1 (w64 (n6_b * columns1)) (w64 (t25_b + 1)))))
   (some (n6_b, (0 : Int))) := by kernel_rfl
theorem ql45b (H : Wm0T0) (N : Nat) (rows0 : Int) (columns1 : Int) : ∀ (m : Nat) (n6_b : Int) (t25_b : Int), R45_1 H N m (Sl45b rows0 columns1 n6_b t25_b) = l45b H N rows0 columns1 m n6_b t25_b
        | 0, _, _ => rfl
        | m + 1, n6_b, t25_b => by rw [wl45b]; simp only [l45b, ql45b H N rows0 columns1 m]
def l45a (H : Wm0T0) (N : Nat) (rows0 : Int) (columns1 : Int) : Nat → Int → Int → Option (Int × Int)
 | 0, _, _ => none
 | n + 1, n6_a, t17_a => cond (decide (t17_a < (w64 (columns1 - (1 : Int))))) ((l45a H N rows0 columns1 n (w64 (n6_a * rows0)) (w64 (t17_a + 1))))
   ((l45b H N rows0 columns1 N n6_a (0 : Int)))
theorem wl45a (H : Wm0T0) (N : Nat) (rows0 : Int) (columns1 : Int) (m : Nat) (n6_a : Int) (t17_a : Int) : R45_0 H N (m + 1) (Sl45a rows0 columns1 n6_a t17_a) = cond (decide (t17_a < (w64 (columns1 - (1 : Int))))) ((R45_0 H N m (Sl45a rows0 columns1 (w64 (n6_a * rows0)) (w64 (t17_a + 1)))))
   ((R45_1 H N N (Sl45b rows0 columns1 n6_a (0 : Int)))) := by kernel_rfl
theorem ql45a (H : Wm0T0) (N : Nat) (rows0 : Int) (columns1 : Int) : ∀ (m : Nat) (n6_a : Int) (t17_a : Int), R45_0 H N m (Sl45a rows0 columns1 n6_a t17_a) = l45a H N rows0 columns1 m n6_a t17_a
        | 0, _, _ => rfl
        | m + 1, n6_a, t17_a => by rw [wl45a]; simp only [l45a, ql45b, ql45a H N rows0 columns1 m]
def m45 (H : Wm0T0) (N : Nat) (rows0 : Int) (columns1 : Int) : Option (Int × Int) :=
   (H (1 : Int) rows0 (6 : Int)).bind fun r1 =>
   cond (!r1) (some ((0 : Int), (4 : Int)))
   ((H (1 : Int) columns1 (6 : Int)).bind fun r2 =>
   cond (!r2) (some ((0 : Int), (4 : Int)))
   ((l45a H N rows0 columns1 N (1 : Int) (0 : Int))))
theorem wm45 (H : Wm0T0) (N : Nat) (rows0 : Int) (columns1 : Int) : callF (E45 H) lv45 N en45 c45 (resOf Try.f45) 30 [.dv (.int .i64) rows0, .dv (.int .i64) columns1] [] dec45 = (H (1 : Int) rows0 (6 : Int)).bind fun r1 =>
   cond (!r1) (some ((0 : Int), (4 : Int)))
   ((H (1 : Int) columns1 (6 : Int)).bind fun r2 =>
   cond (!r2) (some ((0 : Int), (4 : Int)))
   ((R45_0 H N N (Sl45a rows0 columns1 (1 : Int) (0 : Int))))) := by kernel_rfl
theorem k45 (H : Wm0T0) (N : Nat) (rows0 : Int) (columns1 : Int) : callF (E45 H) lv45 N en45 c45 (resOf Try.f45) 30 [.dv (.int .i64) rows0, .dv (.int .i64) columns1] [] dec45 = m45 H N rows0 columns1 := by rw [wm45]; simp only [m45, ql45a]
theorem ok45 (H : Wm0T0) (h41 : FnOk Try.prog 41 (F41 H)) (a : Int → Int → Option (Int × Int)) (h : ∀ rows0 columns1 r, a rows0 columns1 = some r → (∃ N, m45 H N rows0 columns1 = some r)) : FnOk Try.prog 45 (F45 a) := by
 intro args Of x hx
 simp only [F45] at hx
 split at hx
 ·rename_i rows0 columns1
  obtain ⟨N, hN⟩ := h _ _ _ hx
  refine lifted (L := [(41, F41 H)]) (rc := nrc) (fz := nfz) (fn := Try.f45) (by kernel_rfl) (by kernel_rfl) (by kernel_rfl) (by kernel_rfl) rfl ?_ ((k45 H N _ _).trans hN) ?_
  ·intro p hp; simp only [List.mem_cons, List.not_mem_nil, or_false] at hp; rcases hp with rfl; exact h41
  ·intro l o hd
   simp only [dec45] at hd
   split at hd
   ·obtain rfl := oij hd; exact ⟨rfl, rfl⟩
   ·cases hd
 ·cases hx
def E86c : Env := mkE TI TY [] nrc nfz
noncomputable def c86c : Code := bodyOf Try.f86
def lv86c : Nat → Option Norm := norms []
def en86c : End := ⟨[], ⟨[13], [9000], [], []⟩⟩
def dec86c (l : List TV) (o : List (Nat × TO)) : Option (Int × LL) := match l, o with | [.dv (.int .i64) x0], [(9000, .rcd [.dv (.sl (.sl (.int .i64))) x1])] => some (x0, x1) | _, _ => none
def m86c (N : Nat) (s0 : Int) (d1 : Int) (p2 : LL) : Option (Int × LL) :=
   chk (decide (0 ≤ s0 ∧ s0 < (p2.length : Int))) (chk (decide (0 ≤ d1 ∧ d1 < ((p2.getD s0.toNat ([] : List Int)).length : Int))) (some ((p2.getD s0.toNat ([] : List Int)).getD d1.toNat 0, p2)))
theorem k86c (N : Nat) (s0 : Int) (d1 : Int) (p2 : LL) : callF (E86c) lv86c N en86c c86c (resOf Try.f86) 10 [.dv (.int .i64) s0, .dv (.int .i64) d1, .ptr 9000 0 [0]] [(9000, .rcd [.dv (.sl w0Z0) p2])] dec86c = m86c N s0 d1 p2 := by kernel_rfl
theorem ok86c (a : Int → Int → LL → Option (Int × LL)) (h : ∀ s0 d1 p2 r, a s0 d1 p2 = some r → (∃ N, m86c N s0 d1 p2 = some r)) : FnOk Try.prog 86 (F86c a) := by
 intro args Of x hx
 simp only [F86c] at hx
 split at hx
 ·rename_i s0 d1 p2
  obtain ⟨N, hN⟩ := h _ _ _ _ hx
  refine lifted (L := []) (rc := nrc) (fz := nfz) (fn := Try.f86) (by kernel_rfl) (by kernel_rfl) (by kernel_rfl) (by kernel_rfl) rfl ?_ ((k86c N _ _ _).trans hN) ?_
  ·intro p hp; cases hp
  ·intro l o hd
   simp only [dec86c] at hd
   split at hd
   ·obtain rfl := oij hd; exact ⟨rfl, rfl⟩
   ·cases hd
 ·cases hx
def E85c86 (V : Wm0T1) : Env := mkE TI TY [(86, F86c V)] nrc nfz
noncomputable def c85c86 : Code := bodyOf Try.f85
def nm85c86_0 : Norm := ⟨[0, 2, 9, 10, 11], [9000], [], []⟩
def lv85c86 : Nat → Option Norm := norms [(2, nm85c86_0)]
def en85c86 : End := ⟨[], ⟨[21], [9000], [], []⟩⟩
def dec85c86 (l : List TV) (o : List (Nat × TO)) : Option (Int × LL) := match l, o with | [.dv (.int .i64) x0], [(9000, .rcd [.dv (.sl (.sl (.int .i64))) x1])] => some (x0, x1) | _, _ => none
def Sl85c86a (lx1 : List Int) (za_a : Int) (t11_a : Int) (oC_af0 : LL) : TS := ⟨slots 21 [(0, .dv (.int .i64) za_a), (2, .fn 86 0 1 fun i => ([.ptr 9000 0 [0]] : List TV).getD i .any), (9, .dv w0Z0 lx1), (10, .dv (.int .i64) (lx1.length : Int)), (11, .dv (.int .i64) t11_a)], [(9000, .rcd [.dv (.sl w0Z0) oC_af0])]⟩
noncomputable def K85c86_0 (V : Wm0T1) (N : Nat) : Kont (Int × LL) := kont (E85c86 V) lv85c86 N c85c86 [1, 0, 1, 0] (fin TI en85c86 (resOf Try.f85) dec85c86)
noncomputable def R85c86_0 (V : Wm0T1) (N : Nat) (m : Nat) : TS → Option (Int × LL) := loopK (den (E85c86 V) lv85c86 N (sub c85c86 [1, 0, 1, 0, 0])) (TS.norm nm85c86_0) (K85c86_0 V N) m
def l85c86a (V : Wm0T1) (N : Nat) (lx1 : List Int) : Nat → Int → Int → LL → Option (Int × LL)
 | 0, _, _, _ => none
 | n + 1, za_a, t11_a, oC_af0 => cond (decide (t11_a < (lx1.length : Int))) (chk (decide (0 ≤ t11_a ∧ t11_a < (lx1.length : Int))) ((V za_a (lx1.getD t11_a.toNat 0) oC_af0).bind fun r1 =>
   (l85c86a V N lx1 n r1.1 (w64 (t11_a + 1)) r1.2)))
   (some (za_a, oC_af0))
theorem wl85c86a (V : Wm0T1) (N : Nat) (lx1 : List Int) (m : Nat) (za_a : Int) (t11_a : Int) (oC_af0 : LL) : R85c86_0 V N (m + 1) (Sl85c86a lx1 za_a t11_a oC_af0) = cond (decide (t11_a < (lx1.length : Int))) (chk (decide (0 ≤ t11_a ∧ t11_a < (lx1.length : Int))) ((V za_a (lx1.getD t11_a.toNat 0) oC_af0).bind fun r1 =>
   (R85c86_0 V N m (Sl85c86a lx1 r1.1 (w64 (t11_a + 1)) r1.2))))
   (some (za_a, oC_af0)) := by kernel_rfl
theorem ql85c86a (V : Wm0T1) (N : Nat) (lx1 : List Int) : ∀ (m : Nat) (za_a : Int) (t11_a : Int) (oC_af0 : LL), R85c86_0 V N m (Sl85c86a lx1 za_a t11_a oC_af0) = l85c86a V N lx1 m za_a t11_a oC_af0
        | 0, _, _, _ => rfl
        | m + 1, za_a, t11_a, oC_af0 => by rw [wl85c86a]; simp only [l85c86a, ql85c86a V N lx1 m]
def m85c86 (V : Wm0T1) (N : Nat) (start0 : Int) (lx1 : List Int) (p2 : LL) : Option (Int × LL) :=
   (l85c86a V N lx1 N start0 (0 : Int) p2)
theorem wm85c86 (V : Wm0T1) (N : Nat) (start0 : Int) (lx1 : List Int) (p2 : LL) : callF (E85c86 V) lv85c86 N en85c86 c85c86 (resOf Try.f85) 18 [.dv (.int .i64) start0, .dv w0Z0 lx1, .fn 86 0 1 fun i => ([.ptr 9000 0 [0]] : List TV).getD i .any] [(9000, .rcd [.dv (.sl w0Z0) p2])] dec85c86 = (R85c86_0 V N N (Sl85c86a lx1 start0 (0 : Int) p2)) := by kernel_rfl
theorem k85c86 (V : Wm0T1) (N : Nat) (start0 : Int) (lx1 : List Int) (p2 : LL) : callF (E85c86 V) lv85c86 N en85c86 c85c86 (resOf Try.f85) 18 [.dv (.int .i64) start0, .dv w0Z0 lx1, .fn 86 0 1 fun i => ([.ptr 9000 0 [0]] : List TV).getD i .any] [(9000, .rcd [.dv (.sl w0Z0) p2])] dec85c86 = m85c86 V N start0 lx1 p2 := by rw [wm85c86]; simp only [m85c86, ql85c86a]
theorem ok85c86 (V : Wm0T1) (h86c : FnOk Try.prog 86 (F86c V)) (a : Int → (List Int) → LL → Option (Int × LL)) (h : ∀ start0 lx1 p2 r, a start0 lx1 p2 = some r → (∃ N, m85c86 V N start0 lx1 p2 = some r)) : FnOk Try.prog 85 (F85c86 a) := by
 intro args Of x hx
 simp only [F85c86] at hx
 split at hx
 ·rename_i start0 lx1 f_0 p2 heqc
  have hc0 := congrArg (fun c : List (List TV) => c.getD 0 []) heqc
  obtain ⟨N, hN⟩ := h _ _ _ _ hx
  refine HSpec.etaL (args := [.dv (.int .i64) start0, .dv w0Z0 lx1, .fn 86 0 1 fun i => ([.ptr 9000 0 [0]] : List TV).getD i .any]) (O := [(9000, .rcd [.dv (.sl w0Z0) p2])]) ⟨TV.sim_refl _, TV.sim_refl _, TV.sim_fn hc0, trivial⟩ ⟨rfl, TO.sim_refl _, trivial⟩ (lifted (L := [(86, F86c V)]) (rc := nrc) (fz := nfz) (fn := Try.f85) (by kernel_rfl) (by kernel_rfl) (by kernel_rfl) (by kernel_rfl) rfl ?_ ((k85c86 V N _ _ _).trans hN) ?_)
  ·intro p hp; simp only [List.mem_cons, List.not_mem_nil, or_false] at hp; rcases hp with rfl; exact h86c
  ·intro l o hd
   simp only [dec85c86] at hd
   split at hd
   ·obtain rfl := oij hd; exact ⟨rfl, rfl⟩
   ·cases hd
 ·cases hx
def E53 (a85c86 : Wm0T2) : Env := mkE TI TY [(85, F85c86 a85c86)] nrc nfz
noncomputable def c53 : Code := bodyOf Try.f53
def lv53 : Nat → Option Norm := norms []
def en53 : End := ⟨[], ⟨[11], [], [], []⟩⟩
def dec53 (l : List TV) (o : List (Nat × TO)) : Option (Int) := match l, o with | [.dv (.int .i64) x0], [] => some (x0) | _, _ => none
def m53 (a85c86 : Wm0T2) (N : Nat) (t0 : LL) (s1 : Int) (lx2 : List Int) : Option (Int) :=
   (a85c86 s1 lx2 t0).bind fun r1 =>
   some r1.1
theorem k53 (a85c86 : Wm0T2) (N : Nat) (t0 : LL) (s1 : Int) (lx2 : List Int) : callF (E53 a85c86) lv53 N en53 c53 (resOf Try.f53) 8 [.dv (.sl w0Z0) t0, .dv (.int .i64) s1, .dv w0Z0 lx2] [] dec53 = m53 a85c86 N t0 s1 lx2 := by kernel_rfl
theorem ok53 (a85c86 : Wm0T2) (h85c86 : FnOk Try.prog 85 (F85c86 a85c86)) (a : LL → Int → (List Int) → Option (Int)) (h : ∀ t0 s1 lx2 r, a t0 s1 lx2 = some r → (∃ N, m53 a85c86 N t0 s1 lx2 = some r)) : FnOk Try.prog 53 (F53 a) := by
 intro args Of x hx
 simp only [F53] at hx
 split at hx
 ·rename_i t0 s1 lx2
  obtain ⟨N, hN⟩ := h _ _ _ _ hx
  refine lifted (L := [(85, F85c86 a85c86)]) (rc := nrc) (fz := nfz) (fn := Try.f53) (by kernel_rfl) (by kernel_rfl) (by kernel_rfl) (by kernel_rfl) rfl ?_ ((k53 a85c86 N _ _ _).trans hN) ?_
  ·intro p hp; simp only [List.mem_cons, List.not_mem_nil, or_false] at hp; rcases hp with rfl; exact h85c86
  ·intro l o hd
   simp only [dec53] at hd
   split at hd
   ·obtain rfl := oij hd; exact ⟨rfl, rfl⟩
   ·cases hd
 ·cases hx
def E30 : Env := mkE TI TY [] nrc nfz
noncomputable def c30 : Code := bodyOf Try.f30
def lv30 : Nat → Option Norm := norms []
def en30 : End := ⟨[], ⟨[15], [], [], []⟩⟩
def dec30 (l : List TV) (o : List (Nat × TO)) : Option (Bool) := match l, o with | [.dv (.bool) x0], [] => some (x0) | _, _ => none
def m30 (N : Nat) (lo0 : Int) (n1 : Int) (hi2 : Int) : Option (Bool) :=
   cond (decide (lo0 ≤ n1)) (some (decide (n1 ≤ hi2)))
   (some false)
theorem k30 (N : Nat) (lo0 : Int) (n1 : Int) (hi2 : Int) : callF (E30) lv30 N en30 c30 (resOf Try.f30) 12 [.dv (.int .i64) lo0, .dv (.int .i64) n1, .dv (.int .i64) hi2] [] dec30 = m30 N lo0 n1 hi2 := by kernel_rfl
theorem ok30 (a : Int → Int → Int → Option (Bool)) (h : ∀ lo0 n1 hi2 r, a lo0 n1 hi2 = some r → (∃ N, m30 N lo0 n1 hi2 = some r)) : FnOk Try.prog 30 (F30 a) := by
 intro args Of x hx
 simp only [F30] at hx
 split at hx
 ·rename_i lo0 n1 hi2
  obtain ⟨N, hN⟩ := h _ _ _ _ hx
  refine lifted (L := []) (rc := nrc) (fz := nfz) (fn := Try.f30) (by kernel_rfl) (by kernel_rfl) (by kernel_rfl) (by kernel_rfl) rfl ?_ ((k30 N _ _ _).trans hN) ?_
  ·intro p hp; cases hp
  ·intro l o hd
   simp only [dec30] at hd
   split at hd
   ·obtain rfl := oij hd; exact ⟨rfl, rfl⟩
   ·cases hd
 ·cases hx
def E32c : Env := mkE TI TY [] nrc nfz
noncomputable def c32c : Code := bodyOf Try.f32
def lv32c : Nat → Option Norm := norms []
def en32c : End := ⟨[], ⟨[8], [9000], [], []⟩⟩
def dec32c (l : List TV) (o : List (Nat × TO)) : Option (Bool × Int) := match l, o with | [.dv (.bool) x0], [(9000, .rcd [.dv (.int .i64) x1])] => some (x0, x1) | _, _ => none
def m32c (N : Nat) (row0 : List Int) (p1 : Int) : Option (Bool × Int) :=
   some ((row0.length : Int) != p1, p1)
theorem k32c (N : Nat) (row0 : List Int) (p1 : Int) : callF (E32c) lv32c N en32c c32c (resOf Try.f32) 6 [.dv w0Z0 row0, .ptr 9000 0 [0]] [(9000, .rcd [.dv (.int .i64) p1])] dec32c = m32c N row0 p1 := by kernel_rfl
theorem ok32c (a : (List Int) → Int → Option (Bool × Int)) (h : ∀ row0 p1 r, a row0 p1 = some r → (∃ N, m32c N row0 p1 = some r)) : FnOk Try.prog 32 (F32c a) := by
 intro args Of x hx
 simp only [F32c] at hx
 split at hx
 ·rename_i row0 p1
  obtain ⟨N, hN⟩ := h _ _ _ hx
  refine lifted (L := []) (rc := nrc) (fz := nfz) (fn := Try.f32) (by kernel_rfl) (by kernel_rfl) (by kernel_rfl) (by kernel_rfl) rfl ?_ ((k32c N _ _).trans hN) ?_
  ·intro p hp; cases hp
  ·intro l o hd
   simp only [dec32c] at hd
   split at hd
   ·obtain rfl := oij hd; exact ⟨rfl, rfl⟩
   ·cases hd
 ·cases hx
def E67c32 (W : Wm0T3) : Env := mkE TI TY [(32, F32c W)] nrc nfz
noncomputable def c67c32 : Code := bodyOf Try.f67
def nm67c32_0 : Norm := ⟨[0, 1, 7, 8], [9000], [], []⟩
def lv67c32 : Nat → Option Norm := norms [(2, nm67c32_0)]
def en67c32 : End := ⟨[], ⟨[19], [9000], [], []⟩⟩
def dec67c32 (l : List TV) (o : List (Nat × TO)) : Option (Int × Int) := match l, o with | [.dv (.int .i64) x0], [(9000, .rcd [.dv (.int .i64) x1])] => some (x0, x1) | _, _ => none
def Sl67c32a (s0 : LL) (t8_a : Int) (oC_af0 : Int) : TS := ⟨slots 19 [(0, .dv (.sl w0Z0) s0), (1, .fn 32 0 1 fun i => ([.ptr 9000 0 [0]] : List TV).getD i .any), (7, .dv (.int .i64) (s0.length : Int)), (8, .dv (.int .i64) t8_a)], [(9000, .rcd [.dv (.int .i64) oC_af0])]⟩
noncomputable def K67c32_0 (W : Wm0T3) (N : Nat) : Kont (Int × Int) := kont (E67c32 W) lv67c32 N c67c32 [1, 0, 1, 0] (fin TI en67c32 (resOf Try.f67) dec67c32)
noncomputable def R67c32_0 (W : Wm0T3) (N : Nat) (m : Nat) : TS → Option (Int × Int) := loopK (den (E67c32 W) lv67c32 N (sub c67c32 [1, 0, 1, 0, 0])) (TS.norm nm67c32_0) (K67c32_0 W N) m
def l67c32a (W : Wm0T3) (N : Nat) (s0 : LL) : Nat → Int → Int → Option (Int × Int)
 | 0, _, _ => none
 | n + 1, t8_a, oC_af0 => cond (decide (t8_a < (s0.length : Int))) (chk (decide (0 ≤ t8_a ∧ t8_a < (s0.length : Int))) ((W (s0.getD t8_a.toNat ([] : List Int)) oC_af0).bind fun r1 =>
   cond (r1.1) (some (t8_a, r1.2))
   ((l67c32a W N s0 n (w64 (t8_a + 1)) r1.2))))
   (some ((-1 : Int), oC_af0))
theorem wl67c32a (W : Wm0T3) (N : Nat) (s0 : LL) (m : Nat) (t8_a : Int) (oC_af0 : Int) : R67c32_0 W N (m + 1) (Sl67c32a s0 t8_a oC_af0) = cond (decide (t8_a < (s0.length : Int))) (chk (decide (0 ≤ t8_a ∧ t8_a < (s0.length : Int))) ((W (s0.getD t8_a.toNat ([] : List Int)) oC_af0).bind fun r1 =>
   cond (r1.1) (some (t8_a, r1.2))
   ((R67c32_0 W N m (Sl67c32a s0 (w64 (t8_a + 1)) r1.2)))))
   (some ((-1 : Int), oC_af0)) := by kernel_rfl
theorem ql67c32a (W : Wm0T3) (N : Nat) (s0 : LL) : ∀ (m : Nat) (t8_a : Int) (oC_af0 : Int), R67c32_0 W N m (Sl67c32a s0 t8_a oC_af0) = l67c32a W N s0 m t8_a oC_af0
        | 0, _, _ => rfl
        | m + 1, t8_a, oC_af0 => by rw [wl67c32a]; simp only [l67c32a, ql67c32a W N s0 m]
def m67c32 (W : Wm0T3) (N : Nat) (s0 : LL) (p1 : Int) : Option (Int × Int) :=
   (l67c32a W N s0 N (0 : Int) p1)
theorem wm67c32 (W : Wm0T3) (N : Nat) (s0 : LL) (p1 : Int) : callF (E67c32 W) lv67c32 N en67c32 c67c32 (resOf Try.f67) 17 [.dv (.sl w0Z0) s0, .fn 32 0 1 fun i => ([.ptr 9000 0 [0]] : List TV).getD i .any] [(9000, .rcd [.dv (.int .i64) p1])] dec67c32 = (R67c32_0 W N N (Sl67c32a s0 (0 : Int) p1)) := by kernel_rfl
theorem k67c32 (W : Wm0T3) (N : Nat) (s0 : LL) (p1 : Int) : callF (E67c32 W) lv67c32 N en67c32 c67c32 (resOf Try.f67) 17 [.dv (.sl w0Z0) s0, .fn 32 0 1 fun i => ([.ptr 9000 0 [0]] : List TV).getD i .any] [(9000, .rcd [.dv (.int .i64) p1])] dec67c32 = m67c32 W N s0 p1 := by rw [wm67c32]; simp only [m67c32, ql67c32a]
theorem ok67c32 (W : Wm0T3) (h32c : FnOk Try.prog 32 (F32c W)) (a : LL → Int → Option (Int × Int)) (h : ∀ s0 p1 r, a s0 p1 = some r → (∃ N, m67c32 W N s0 p1 = some r)) : FnOk Try.prog 67 (F67c32 a) := by
 intro args Of x hx
 simp only [F67c32] at hx
 split at hx
 ·rename_i s0 f_0 p1 heqc
  have hc0 := congrArg (fun c : List (List TV) => c.getD 0 []) heqc
  obtain ⟨N, hN⟩ := h _ _ _ hx
  refine HSpec.etaL (args := [.dv (.sl w0Z0) s0, .fn 32 0 1 fun i => ([.ptr 9000 0 [0]] : List TV).getD i .any]) (O := [(9000, .rcd [.dv (.int .i64) p1])]) ⟨TV.sim_refl _, TV.sim_fn hc0, trivial⟩ ⟨rfl, TO.sim_refl _, trivial⟩ (lifted (L := [(32, F32c W)]) (rc := nrc) (fz := nfz) (fn := Try.f67) (by kernel_rfl) (by kernel_rfl) (by kernel_rfl) (by kernel_rfl) rfl ?_ ((k67c32 W N _ _).trans hN) ?_)
  ·intro p hp; simp only [List.mem_cons, List.not_mem_nil, or_false] at hp; rcases hp with rfl; exact h32c
  ·intro l o hd
   simp only [dec67c32] at hd
   split at hd
   ·obtain rfl := oij hd; exact ⟨rfl, rfl⟩
   ·cases hd
 ·cases hx
def E31c32 (a67c32 : Wm0T4) : Env := mkE TI TY [(67, F67c32 a67c32)] nrc nfz
noncomputable def c31c32 : Code := bodyOf Try.f31
def lv31c32 : Nat → Option Norm := norms []
def en31c32 : End := ⟨[], ⟨[9], [9000], [], []⟩⟩
def dec31c32 (l : List TV) (o : List (Nat × TO)) : Option (Bool × Int) := match l, o with | [.dv (.bool) x0], [(9000, .rcd [.dv (.int .i64) x1])] => some (x0, x1) | _, _ => none
def m31c32 (a67c32 : Wm0T4) (N : Nat) (s0 : LL) (p1 : Int) : Option (Bool × Int) :=
   (a67c32 s0 p1).bind fun r1 =>
   some (decide (r1.1 ≥ (0 : Int)), r1.2)
theorem k31c32 (a67c32 : Wm0T4) (N : Nat) (s0 : LL) (p1 : Int) : callF (E31c32 a67c32) lv31c32 N en31c32 c31c32 (resOf Try.f31) 7 [.dv (.sl w0Z0) s0, .fn 32 0 1 fun i => ([.ptr 9000 0 [0]] : List TV).getD i .any] [(9000, .rcd [.dv (.int .i64) p1])] dec31c32 = m31c32 a67c32 N s0 p1 := by kernel_rfl
theorem ok31c32 (a67c32 : Wm0T4) (h67c32 : FnOk Try.prog 67 (F67c32 a67c32)) (a : LL → Int → Option (Bool × Int)) (h : ∀ s0 p1 r, a s0 p1 = some r → (∃ N, m31c32 a67c32 N s0 p1 = some r)) : FnOk Try.prog 31 (F31c32 a) := by
 intro args Of x hx
 simp only [F31c32] at hx
 split at hx
 ·rename_i s0 f_0 p1 heqc
  have hc0 := congrArg (fun c : List (List TV) => c.getD 0 []) heqc
  obtain ⟨N, hN⟩ := h _ _ _ hx
  refine HSpec.etaL (args := [.dv (.sl w0Z0) s0, .fn 32 0 1 fun i => ([.ptr 9000 0 [0]] : List TV).getD i .any]) (O := [(9000, .rcd [.dv (.int .i64) p1])]) ⟨TV.sim_refl _, TV.sim_fn hc0, trivial⟩ ⟨rfl, TO.sim_refl _, trivial⟩ (lifted (L := [(67, F67c32 a67c32)]) (rc := nrc) (fz := nfz) (fn := Try.f31) (by kernel_rfl) (by kernel_rfl) (by kernel_rfl) (by kernel_rfl) rfl ?_ ((k31c32 a67c32 N _ _).trans hN) ?_)
  ·intro p hp; simp only [List.mem_cons, List.not_mem_nil, or_false] at hp; rcases hp with rfl; exact h67c32
  ·intro l o hd
   simp only [dec31c32] at hd
   split at hd
   ·obtain rfl := oij hd; exact ⟨rfl, rfl⟩
   ·cases hd
 ·cases hx
def E35c (A : Wm0T0) : Env := mkE TI TY [(30, F30 A)] nrc nfz
noncomputable def c35c : Code := bodyOf Try.f35
def lv35c : Nat → Option Norm := norms []
def en35c : End := ⟨[], ⟨[9], [9000], [], []⟩⟩
def dec35c (l : List TV) (o : List (Nat × TO)) : Option (Bool × Int) := match l, o with | [.dv (.bool) x0], [(9000, .rcd [.dv (.int .i64) x1])] => some (x0, x1) | _, _ => none
def m35c (A : Wm0T0) (N : Nat) (x0 : Int) (p1 : Int) : Option (Bool × Int) :=
   (A (0 : Int) x0 (w64 (p1 - (1 : Int)))).bind fun r1 =>
   some (!r1, p1)
theorem k35c (A : Wm0T0) (N : Nat) (x0 : Int) (p1 : Int) : callF (E35c A) lv35c N en35c c35c (resOf Try.f35) 7 [.dv (.int .i64) x0, .ptr 9000 0 [0]] [(9000, .rcd [.dv (.int .i64) p1])] dec35c = m35c A N x0 p1 := by kernel_rfl
theorem ok35c (A : Wm0T0) (h30 : FnOk Try.prog 30 (F30 A)) (a : Int → Int → Option (Bool × Int)) (h : ∀ x0 p1 r, a x0 p1 = some r → (∃ N, m35c A N x0 p1 = some r)) : FnOk Try.prog 35 (F35c a) := by
 intro args Of x hx
 simp only [F35c] at hx
 split at hx
 ·rename_i x0 p1
  obtain ⟨N, hN⟩ := h _ _ _ hx
  refine lifted (L := [(30, F30 A)]) (rc := nrc) (fz := nfz) (fn := Try.f35) (by kernel_rfl) (by kernel_rfl) (by kernel_rfl) (by kernel_rfl) rfl ?_ ((k35c A N _ _).trans hN) ?_
  ·intro p hp; simp only [List.mem_cons, List.not_mem_nil, or_false] at hp; rcases hp with rfl; exact h30
  ·intro l o hd
   simp only [dec35c] at hd
   split at hd
   ·obtain rfl := oij hd; exact ⟨rfl, rfl⟩
   ·cases hd
 ·cases hx
def E68c35 (X : Wm0T5) : Env := mkE TI TY [(35, F35c X)] nrc nfz
noncomputable def c68c35 : Code := bodyOf Try.f68
def nm68c35_0 : Norm := ⟨[0, 1, 7, 8], [9000], [], []⟩
def lv68c35 : Nat → Option Norm := norms [(2, nm68c35_0)]
def en68c35 : End := ⟨[], ⟨[19], [9000], [], []⟩⟩
def dec68c35 (l : List TV) (o : List (Nat × TO)) : Option (Int × Int) := match l, o with | [.dv (.int .i64) x0], [(9000, .rcd [.dv (.int .i64) x1])] => some (x0, x1) | _, _ => none
def Sl68c35a (s0 : List Int) (t8_a : Int) (oC_af0 : Int) : TS := ⟨slots 19 [(0, .dv w0Z0 s0), (1, .fn 35 0 1 fun i => ([.ptr 9000 0 [0]] : List TV).getD i .any), (7, .dv (.int .i64) (s0.length : Int)), (8, .dv (.int .i64) t8_a)], [(9000, .rcd [.dv (.int .i64) oC_af0])]⟩
noncomputable def K68c35_0 (X : Wm0T5) (N : Nat) : Kont (Int × Int) := kont (E68c35 X) lv68c35 N c68c35 [1, 0, 1, 0] (fin TI en68c35 (resOf Try.f68) dec68c35)
noncomputable def R68c35_0 (X : Wm0T5) (N : Nat) (m : Nat) : TS → Option (Int × Int) := loopK (den (E68c35 X) lv68c35 N (sub c68c35 [1, 0, 1, 0, 0])) (TS.norm nm68c35_0) (K68c35_0 X N) m
def l68c35a (X : Wm0T5) (N : Nat) (s0 : List Int) : Nat → Int → Int → Option (Int × Int)
 | 0, _, _ => none
 | n + 1, t8_a, oC_af0 => cond (decide (t8_a < (s0.length : Int))) (chk (decide (0 ≤ t8_a ∧ t8_a < (s0.length : Int))) ((X (s0.getD t8_a.toNat 0) oC_af0).bind fun r1 =>
   cond (r1.1) (some (t8_a, r1.2))
   ((l68c35a X N s0 n (w64 (t8_a + 1)) r1.2))))
   (some ((-1 : Int), oC_af0))
theorem wl68c35a (X : Wm0T5) (N : Nat) (s0 : List Int) (m : Nat) (t8_a : Int) (oC_af0 : Int) : R68c35_0 X N (m + 1) (Sl68c35a s0 t8_a oC_af0) = cond (decide (t8_a < (s0.length : Int))) (chk (decide (0 ≤ t8_a ∧ t8_a < (s0.length : Int))) ((X (s0.getD t8_a.toNat 0) oC_af0).bind fun r1 =>
   cond (r1.1) (some (t8_a, r1.2))
   ((R68c35_0 X N m (Sl68c35a s0 (w64 (t8_a + 1)) r1.2)))))
   (some ((-1 : Int), oC_af0)) := by kernel_rfl
theorem ql68c35a (X : Wm0T5) (N : Nat) (s0 : List Int) : ∀ (m : Nat) (t8_a : Int) (oC_af0 : Int), R68c35_0 X N m (Sl68c35a s0 t8_a oC_af0) = l68c35a X N s0 m t8_a oC_af0
        | 0, _, _ => rfl
        | m + 1, t8_a, oC_af0 => by rw [wl68c35a]; simp only [l68c35a, ql68c35a X N s0 m]
def m68c35 (X : Wm0T5) (N : Nat) (s0 : List Int) (p1 : Int) : Option (Int × Int) :=
   (l68c35a X N s0 N (0 : Int) p1)
theorem wm68c35 (X : Wm0T5) (N : Nat) (s0 : List Int) (p1 : Int) : callF (E68c35 X) lv68c35 N en68c35 c68c35 (resOf Try.f68) 17 [.dv w0Z0 s0, .fn 35 0 1 fun i => ([.ptr 9000 0 [0]] : List TV).getD i .any] [(9000, .rcd [.dv (.int .i64) p1])] dec68c35 = (R68c35_0 X N N (Sl68c35a s0 (0 : Int) p1)) := by kernel_rfl
theorem k68c35 (X : Wm0T5) (N : Nat) (s0 : List Int) (p1 : Int) : callF (E68c35 X) lv68c35 N en68c35 c68c35 (resOf Try.f68) 17 [.dv w0Z0 s0, .fn 35 0 1 fun i => ([.ptr 9000 0 [0]] : List TV).getD i .any] [(9000, .rcd [.dv (.int .i64) p1])] dec68c35 = m68c35 X N s0 p1 := by rw [wm68c35]; simp only [m68c35, ql68c35a]
theorem ok68c35 (X : Wm0T5) (h35c : FnOk Try.prog 35 (F35c X)) (a : (List Int) → Int → Option (Int × Int)) (h : ∀ s0 p1 r, a s0 p1 = some r → (∃ N, m68c35 X N s0 p1 = some r)) : FnOk Try.prog 68 (F68c35 a) := by
 intro args Of x hx
 simp only [F68c35] at hx
 split at hx
 ·rename_i s0 f_0 p1 heqc
  have hc0 := congrArg (fun c : List (List TV) => c.getD 0 []) heqc
  obtain ⟨N, hN⟩ := h _ _ _ hx
  refine HSpec.etaL (args := [.dv w0Z0 s0, .fn 35 0 1 fun i => ([.ptr 9000 0 [0]] : List TV).getD i .any]) (O := [(9000, .rcd [.dv (.int .i64) p1])]) ⟨TV.sim_refl _, TV.sim_fn hc0, trivial⟩ ⟨rfl, TO.sim_refl _, trivial⟩ (lifted (L := [(35, F35c X)]) (rc := nrc) (fz := nfz) (fn := Try.f68) (by kernel_rfl) (by kernel_rfl) (by kernel_rfl) (by kernel_rfl) rfl ?_ ((k68c35 X N _ _).trans hN) ?_)
  ·intro p hp; simp only [List.mem_cons, List.not_mem_nil, or_false] at hp; rcases hp with rfl; exact h35c
  ·intro l o hd
   simp only [dec68c35] at hd
   split at hd
   ·obtain rfl := oij hd; exact ⟨rfl, rfl⟩
   ·cases hd
 ·cases hx
def E33c35 (a68c35 : (List Int) → Int → Option (Int × Int)) : Env := mkE TI TY [(68, F68c35 a68c35)] nrc nfz
noncomputable def c33c35 : Code := bodyOf Try.f33
def lv33c35 : Nat → Option Norm := norms []
def en33c35 : End := ⟨[], ⟨[9], [9000], [], []⟩⟩
def dec33c35 (l : List TV) (o : List (Nat × TO)) : Option (Bool × Int) := match l, o with | [.dv (.bool) x0], [(9000, .rcd [.dv (.int .i64) x1])] => some (x0, x1) | _, _ => none
def m33c35 (a68c35 : (List Int) → Int → Option (Int × Int)) (N : Nat) (s0 : List Int) (p1 : Int) : Option (Bool × Int) :=
   (a68c35 s0 p1).bind fun r1 =>
   some (decide (r1.1 ≥ (0 : Int)), r1.2)
theorem k33c35 (a68c35 : (List Int) → Int → Option (Int × Int)) (N : Nat) (s0 : List Int) (p1 : Int) : callF (E33c35 a68c35) lv33c35 N en33c35 c33c35 (resOf Try.f33) 7 [.dv w0Z0 s0, .fn 35 0 1 fun i => ([.ptr 9000 0 [0]] : List TV).getD i .any] [(9000, .rcd [.dv (.int .i64) p1])] dec33c35 = m33c35 a68c35 N s0 p1 := by kernel_rfl
theorem ok33c35 (a68c35 : (List Int) → Int → Option (Int × Int)) (h68c35 : FnOk Try.prog 68 (F68c35 a68c35)) (a : (List Int) → Int → Option (Bool × Int)) (h : ∀ s0 p1 r, a s0 p1 = some r → (∃ N, m33c35 a68c35 N s0 p1 = some r)) : FnOk Try.prog 33 (F33c35 a) := by
 intro args Of x hx
 simp only [F33c35] at hx
 split at hx
 ·rename_i s0 f_0 p1 heqc
  have hc0 := congrArg (fun c : List (List TV) => c.getD 0 []) heqc
  obtain ⟨N, hN⟩ := h _ _ _ hx
  refine HSpec.etaL (args := [.dv w0Z0 s0, .fn 35 0 1 fun i => ([.ptr 9000 0 [0]] : List TV).getD i .any]) (O := [(9000, .rcd [.dv (.int .i64) p1])]) ⟨TV.sim_refl _, TV.sim_fn hc0, trivial⟩ ⟨rfl, TO.sim_refl _, trivial⟩ (lifted (L := [(68, F68c35 a68c35)]) (rc := nrc) (fz := nfz) (fn := Try.f33) (by kernel_rfl) (by kernel_rfl) (by kernel_rfl) (by kernel_rfl) rfl ?_ ((k33c35 a68c35 N _ _).trans hN) ?_)
  ·intro p hp; simp only [List.mem_cons, List.not_mem_nil, or_false] at hp; rcases hp with rfl; exact h68c35
  ·intro l o hd
   simp only [dec33c35] at hd
   split at hd
   ·obtain rfl := oij hd; exact ⟨rfl, rfl⟩
   ·cases hd
 ·cases hx
def E69c : Env := mkE TI TY [] nrc (fun i => ([25] : List Nat).contains i)
noncomputable def c69c : Code := bodyOf Try.f69
def lv69c : Nat → Option Norm := norms []
def en69c : End := ⟨[], ⟨[], [], [(.slot 27, 1500, .int .i64)], []⟩⟩
def dec69c (l : List TV) (o : List (Nat × TO)) : Option (List Int) := match l, o with | [.row 1500], [(1500, .row (.int .i64) x0)] => some (x0) | _, _ => none
def m69c (N : Nat) (n1 : Int) : Option (List Int) :=
   cond (decide (n1 < (0 : Int))) (none)
   (cond (decide ((w64 (n1 - (0 : Int))) > (0 : Int))) (chk (decide ((0 : Int) < (w64 (n1 - (0 : Int)))) && mkOk (w64 (n1 - (0 : Int))) (w64 (n1 - (0 : Int))) 8) (chk (decide (0 ≤ (0 : Int) ∧ (0 : Int) ≤ ((List.replicate ((w64 (n1 - (0 : Int))).toNat) (0 : Int)).length : Int))) (some ((List.replicate ((w64 (n1 - (0 : Int))).toNat) (0 : Int)).take 0))))
   (some ([] : List Int)))
theorem k69c (N : Nat) (n1 : Int) : callF (E69c) lv69c N en69c c69c (resOf Try.f69) 25 [.nl, .dv (.int .i64) n1] [] dec69c = m69c N n1 := by kernel_rfl
theorem ok69c (a : Int → Option (List Int)) (h : ∀ n1 r, a n1 = some r → (∃ N, m69c N n1 = some r)) : FnOk Try.prog 69 (F69c a) := by
 intro args Of x hx
 simp only [F69c] at hx
 split at hx
 ·rename_i n1
  obtain ⟨N, hN⟩ := h _ _ hx
  refine lifted (L := []) (rc := nrc) (fz := (fun i => ([25] : List Nat).contains i)) (fn := Try.f69) (by kernel_rfl) (by kernel_rfl) (by kernel_rfl) (by kernel_rfl) rfl ?_ ((k69c N _).trans hN) ?_
  ·intro p hp; cases hp
  ·intro l o hd
   simp only [dec69c] at hd
   split at hd
   ·obtain rfl := oij hd; exact ⟨rfl, rfl⟩
   ·cases hd
 ·cases hx
def E34 (K : Wm0T6) : Env := mkE TI TY [(69, F69c K)] nrc nfz
noncomputable def c34 : Code := bodyOf Try.f34
def nm34_0 : Norm := ⟨[0, 3, 9, 10, 11], [], [], []⟩
def nm34_1 : Norm := ⟨[25, 26, 27], [], [(.slot 6, 1006, .int .i64)], []⟩
def lv34 : Nat → Option Norm := norms [(3, nm34_0), (11, nm34_1)]
def en34 : End := ⟨[(36, .sl (.int .i64))], ⟨[36], [], [], []⟩⟩
def dec34 (l : List TV) (o : List (Nat × TO)) : Option (List Int) := match l, o with | [.dv (.sl (.int .i64)) x0], [] => some (x0) | _, _ => none
def Sl34b (zl : LL) (t27_b : Int) (zs_b : List Int) : TS := ⟨slots 36 [(6, .row 1006), (25, .dv (.sl w0Z0) zl), (26, .dv (.int .i64) (zl.length : Int)), (27, .dv (.int .i64) t27_b)], [(1006, .row (.int .i64) zs_b)]⟩
def Sl34a (zl : LL) (size3_a : Int) (t11_a : Int) : TS := ⟨slots 36 [(0, .dv (.sl w0Z0) zl), (3, .dv (.int .i64) size3_a), (9, .dv (.sl w0Z0) zl), (10, .dv (.int .i64) (zl.length : Int)), (11, .dv (.int .i64) t11_a)], []⟩
noncomputable def K34_0 (K : Wm0T6) (N : Nat) : Kont (List Int) := kont (E34 K) lv34 N c34 [1, 1, 0, 1, 0] (fin TI en34 (resOf Try.f34) dec34)
noncomputable def R34_0 (K : Wm0T6) (N : Nat) (m : Nat) : TS → Option (List Int) := loopK (den (E34 K) lv34 N (sub c34 [1, 1, 0, 1, 0, 0])) (TS.norm nm34_0) (K34_0 K N) m
noncomputable def K34_1 (K : Wm0T6) (N : Nat) : Kont (List Int) := kont (E34 K) lv34 N c34 [1, 1, 1, 1, 0, 1, 0] (fin TI en34 (resOf Try.f34) dec34)
noncomputable def R34_1 (K : Wm0T6) (N : Nat) (m : Nat) : TS → Option (List Int) := loopK (den (E34 K) lv34 N (sub c34 [1, 1, 1, 1, 0, 1, 0, 0])) (TS.norm nm34_1) (K34_1 K N) m
def l34b (K : Wm0T6) (N : Nat) (zl : LL) : Nat → Int → (List Int) → Option (List Int)
 | 0, _, _ => none
 | n + 1, t27_b, zs_b => cond (decide (t27_b < (zl.length : Int))) (chk (decide (0 ≤ t27_b ∧ t27_b < (zl.length : Int))) (chk (small (zs_b.length + (zl.getD t27_b.toNat ([] : List Int)).length) 8) ((l34b K N zl n (w64 (t27_b + 1)) (zs_b ++ (zl.getD t27_b.toNat ([] : List Int)))))))
   (some zs_b)
theorem wl34b (K : Wm0T6) (N : Nat) (zl : LL) (m : Nat) (t27_b : Int) (zs_b : List Int) : R34_1 K N (m + 1) (Sl34b zl t27_b zs_b) = cond (decide (t27_b < (zl.length : Int))) (chk (decide (0 ≤ t27_b ∧ t27_b < (zl.length : Int))) (chk (small (zs_b.length + (zl.getD t27_b.toNat ([] : List Int)).length) 8) ((R34_1 K N m (Sl34b zl (w64 (t27_b + 1)) (zs_b ++ (zl.getD t27_b.toNat ([] : List Int))))))))
   (some zs_b) := by kernel_rfl
theorem ql34b (K : Wm0T6) (N : Nat) (zl : LL) : ∀ (m : Nat) (t27_b : Int) (zs_b : List Int), R34_1 K N m (Sl34b zl t27_b zs_b) = l34b K N zl m t27_b zs_b
        | 0, _, _ => rfl
        | m + 1, t27_b, zs_b => by rw [wl34b]; simp only [l34b, ql34b K N zl m]
def l34a (K : Wm0T6) (N : Nat) (zl : LL) : Nat → Int → Int → Option (List Int)
 | 0, _, _ => none
 | n + 1, size3_a, t11_a => cond (decide (t11_a < (zl.length : Int))) (chk (decide (0 ≤ t11_a ∧ t11_a < (zl.length : Int))) (cond (decide ((w64 (size3_a + ((zl.getD t11_a.toNat ([] : List Int)).length : Int))) < (0 : Int))) (none)
   ((l34a K N zl n (w64 (size3_a + ((zl.getD t11_a.toNat ([] : List Int)).length : Int))) (w64 (t11_a + 1))))))
   ((K size3_a).bind fun r1 =>
   (l34b K N zl N (0 : Int) r1))
theorem wl34a (K : Wm0T6) (N : Nat) (zl : LL) (m : Nat) (size3_a : Int) (t11_a : Int) : R34_0 K N (m + 1) (Sl34a zl size3_a t11_a) = cond (decide (t11_a < (zl.length : Int))) (chk (decide (0 ≤ t11_a ∧ t11_a < (zl.length : Int))) (cond (decide ((w64 (size3_a + ((zl.getD t11_a.toNat ([] : List Int)).length : Int))) < (0 : Int))) (none)
   ((R34_0 K N m (Sl34a zl (w64 (size3_a + ((zl.getD t11_a.toNat ([] : List Int)).length : Int))) (w64 (t11_a + 1)))))))
   ((K size3_a).bind fun r1 =>
   (R34_1 K N N (Sl34b zl (0 : Int) r1))) := by kernel_rfl
theorem ql34a (K : Wm0T6) (N : Nat) (zl : LL) : ∀ (m : Nat) (size3_a : Int) (t11_a : Int), R34_0 K N m (Sl34a zl size3_a t11_a) = l34a K N zl m size3_a t11_a
        | 0, _, _ => rfl
        | m + 1, size3_a, t11_a => by rw [wl34a]; simp only [l34a, ql34b, ql34a K N zl m]
def m34 (K : Wm0T6) (N : Nat) (zl : LL) : Option (List Int) :=
   (l34a K N zl N (0 : Int) (0 : Int))
theorem wm34 (K : Wm0T6) (N : Nat) (zl : LL) : callF (E34 K) lv34 N en34 c34 (resOf Try.f34) 35 [.dv (.sl w0Z0) zl] [] dec34 = (R34_0 K N N (Sl34a zl (0 : Int) (0 : Int))) := by kernel_rfl
theorem k34 (K : Wm0T6) (N : Nat) (zl : LL) : callF (E34 K) lv34 N en34 c34 (resOf Try.f34) 35 [.dv (.sl w0Z0) zl] [] dec34 = m34 K N zl := by rw [wm34]; simp only [m34, ql34a]
theorem ok34 (K : Wm0T6) (h69c : FnOk Try.prog 69 (F69c K)) (a : LL → Option (List Int)) (h : ∀ zl r, a zl = some r → (∃ N, m34 K N zl = some r)) : FnOk Try.prog 34 (F34 a) := by
 intro args Of x hx
 simp only [F34] at hx
 split at hx
 ·rename_i zl
  obtain ⟨N, hN⟩ := h _ _ hx
  refine lifted (L := [(69, F69c K)]) (rc := nrc) (fz := nfz) (fn := Try.f34) (by kernel_rfl) (by kernel_rfl) (by kernel_rfl) (by kernel_rfl) rfl ?_ ((k34 K N _).trans hN) ?_
  ·intro p hp; simp only [List.mem_cons, List.not_mem_nil, or_false] at hp; rcases hp with rfl; exact h69c
  ·intro l o hd
   simp only [dec34] at hd
   split at hd
   ·obtain rfl := oij hd; exact ⟨rfl, rfl⟩
   ·cases hd
 ·cases hx
def E36 : Env := mkE TI TY [] nrc nfz
noncomputable def c36 : Code := bodyOf Try.f36
def nm36_0 : Norm := ⟨[0, 3, 11, 12], [], [], []⟩
def nm36_1 : Norm := ⟨[0, 3, 4, 5, 6, 11, 12, 16, 17], [5, 6], [], []⟩
def lv36 : Nat → Option Norm := norms [(3, nm36_0), (7, nm36_1)]
def en36 : End := ⟨[], ⟨[49], [], [], []⟩⟩
def dec36 (l : List TV) (o : List (Nat × TO)) : Option (Bool) := match l, o with | [.dv (.bool) x0], [] => some (x0) | _, _ => none
def Sl36b (t0 : LL) (t12_a : Int) (twice3_b : Bool) (t17_b : Int) (o5_b : List (List Bool)) (o6_b : List (List Bool)) : TS := ⟨slots 49 [(0, .dv (.sl w0Z0) t0), (3, .dv (.bool) twice3_b), (4, .dv (.int .i64) t12_a), (5, .ptr 5 0 []), (6, .ptr 6 0 []), (11, .dv (.int .i64) (t0.length : Int)), (12, .dv (.int .i64) t12_a), (16, .dv (.int .i64) (t0.length : Int)), (17, .dv (.int .i64) t17_b)], [(5, .row (.arr 10 (.bool)) o5_b), (6, .row (.arr 10 (.bool)) o6_b)]⟩
def Sl36a (t0 : LL) (twice3_a : Bool) (t12_a : Int) : TS := ⟨slots 49 [(0, .dv (.sl w0Z0) t0), (3, .dv (.bool) twice3_a), (11, .dv (.int .i64) (t0.length : Int)), (12, .dv (.int .i64) t12_a)], []⟩
noncomputable def K36_0 (N : Nat) : Kont (Bool) := kont (E36) lv36 N c36 [1, 0, 1, 1, 0, 1, 0] (fin TI en36 (resOf Try.f36) dec36)
noncomputable def R36_0 (N : Nat) (m : Nat) : TS → Option (Bool) := loopK (den (E36) lv36 N (sub c36 [1, 0, 1, 1, 0, 1, 0, 0])) (TS.norm nm36_0) (K36_0 N) m
noncomputable def K36_1 (N : Nat) (T36_0 : TS → Option (Bool)) : Kont (Bool) := kont (E36) lv36 N (sub c36 [1, 0, 1, 1, 0, 1, 0, 0]) [1, 1, 0, 0, 1, 1, 1, 0] (kloop (TS.norm nm36_0) (K36_0 N) T36_0)
noncomputable def R36_1 (N : Nat) (T36_0 : TS → Option (Bool)) (m : Nat) : TS → Option (Bool) := loopK (den (E36) lv36 N (sub c36 [1, 0, 1, 1, 0, 1, 0, 0, 1, 1, 0, 0, 1, 1, 1, 0, 0])) (TS.norm nm36_1) (K36_1 N T36_0) m
def l36b (N : Nat) (t0 : LL) (t12_a : Int) (l36a' : Bool → Int → Option (Bool)) : Nat → Bool → Int → (List (List Bool)) → (List (List Bool)) → Option (Bool)
 | 0, _, _, _, _ => none
 | n + 1, twice3_b, t17_b, o5_b, o6_b => cond (decide (t17_b < (t0.length : Int))) (chk (decide (0 ≤ t12_a ∧ t12_a < (t0.length : Int))) (chk (decide (0 ≤ t17_b ∧ t17_b < ((t0.getD t12_a.toNat ([] : List Int)).length : Int))) (chk (decide (0 ≤ t17_b ∧ t17_b < (t0.length : Int))) (chk (decide (0 ≤ t12_a ∧ t12_a < ((t0.getD t17_b.toNat ([] : List Int)).length : Int))) (chk (decide (0 ≤ (t0.getD t12_a.toNat ([] : List Int)).getD t17_b.toNat 0 ∧ (t0.getD t12_a.toNat ([] : List Int)).getD t17_b.toNat 0 < (10 : Int))) (cond ((o5_b.getD 0 w0Z1).getD (((t0.getD t12_a.toNat ([] : List Int)).getD t17_b.toNat 0).toNat) false) (some true)
   (chk (decide (0 ≤ (t0.getD t17_b.toNat ([] : List Int)).getD t12_a.toNat 0 ∧ (t0.getD t17_b.toNat ([] : List Int)).getD t12_a.toNat 0 < (10 : Int))) (cond ((o6_b.getD 0 w0Z1).getD (((t0.getD t17_b.toNat ([] : List Int)).getD t12_a.toNat 0).toNat) false) (some true)
   (chk (decide (0 ≤ (t0.getD t12_a.toNat ([] : List Int)).getD t17_b.toNat 0 ∧ (t0.getD t12_a.toNat ([] : List Int)).getD t17_b.toNat 0 < (10 : Int))) (chk ((decide (((t0.getD t12_a.toNat ([] : List Int)).getD t17_b.toNat 0).toNat < (o5_b.getD 0 w0Z1).length)) && (true)) (chk (decide (0 ≤ (t0.getD t17_b.toNat ([] : List Int)).getD t12_a.toNat 0 ∧ (t0.getD t17_b.toNat ([] : List Int)).getD t12_a.toNat 0 < (10 : Int))) (chk ((decide (((t0.getD t17_b.toNat ([] : List Int)).getD t12_a.toNat 0).toNat < (o6_b.getD 0 w0Z1).length)) && (true)) ((l36b N t0 t12_a l36a' n twice3_b (w64 (t17_b + 1)) (o5_b.set 0 ((o5_b.getD 0 w0Z1).set (((t0.getD t12_a.toNat ([] : List Int)).getD t17_b.toNat 0).toNat) true)) (o6_b.set 0 ((o6_b.getD 0 w0Z1).set (((t0.getD t17_b.toNat ([] : List Int)).getD t12_a.toNat 0).toNat) true))))))))))))))))
   ((l36a' twice3_b (w64 (t12_a + 1))))
theorem wl36b (N : Nat) (t0 : LL) (t12_a : Int) (T36_0 : TS → Option (Bool)) (m : Nat) (twice3_b : Bool) (t17_b : Int) (o5_b : List (List Bool)) (o6_b : List (List Bool)) : R36_1 N T36_0 (m + 1) (Sl36b t0 t12_a twice3_b t17_b o5_b o6_b) = cond (decide (t17_b < (t0.length : Int))) (chk (decide (0 ≤ t12_a ∧ t12_a < (t0.length : Int))) (chk (decide (0 ≤ t17_b ∧ t17_b < ((t0.getD t12_a.toNat ([] : List Int)).length : Int))) (chk (decide (0 ≤ t17_b ∧ t17_b < (t0.length : Int))) (chk (decide (0 ≤ t12_a ∧ t12_a < ((t0.getD t17_b.toNat ([] : List Int)).length : Int))) (chk (decide (0 ≤ (t0.getD t12_a.toNat ([] : List Int)).getD t17_b.toNat 0 ∧ (t0.getD t12_a.toNat ([] : List Int)).getD t17_b.toNat 0 < (10 : Int))) (cond ((o5_b.getD 0 w0Z1).getD (((t0.getD t12_a.toNat ([] : List Int)).getD t17_b.toNat 0).toNat) false) (some true)
   (chk (decide (0 ≤ (t0.getD t17_b.toNat ([] : List Int)).getD t12_a.toNat 0 ∧ (t0.getD t17_b.toNat ([] : List Int)).getD t12_a.toNat 0 < (10 : Int))) (cond ((o6_b.getD 0 w0Z1).getD (((t0.getD t17_b.toNat ([] : List Int)).getD t12_a.toNat 0).toNat) false) (some true)
   (chk (decide (0 ≤ (t0.getD t12_a.toNat ([] : List Int)).getD t17_b.toNat 0 ∧ (t0.getD t12_a.toNat ([] : List Int)).getD t17_b.toNat 0 < (10 : Int))) (chk ((decide (((t0.getD t12_a.toNat ([] : List Int)).getD t17_b.toNat 0).toNat < (o5_b.getD 0 w0Z1).length)) && (true)) (chk (decide (0 ≤ (t0.getD t17_b.toNat ([] : List Int)).getD t12_a.toNat 0 ∧ (t0.getD t17_b.toNat ([] : List Int)).getD t12_a.toNat 0 < (10 : Int))) (chk ((decide (((t0.getD t17_b.toNat ([] : List Int)).getD t12_a.toNat 0).toNat < (o6_b.getD 0 w0Z1).length)) && (true)) ((R36_1 N T36_0 m (Sl36b t0 t12_a twice3_b (w64 (t17_b + 1)) (o5_b.set 0 ((o5_b.getD 0 w0Z1).set (((t0.getD t12_a.toNat ([] : List Int)).getD t17_b.toNat 0).toNat) true)) (o6_b.set 0 ((o6_b.getD 0 w0Z1).set (((t0.getD t17_b.toNat ([] : List Int)).getD t12_a.toNat 0).toNat) true)))))))))))))))))
   ((T36_0 (Sl36a t0 twice3_b (w64 (t12_a + 1))))) := by kernel_rfl
theorem ql36b (N : Nat) (t0 : LL) (t12_a : Int) (T36_0 : TS → Option (Bool)) : ∀ (m : Nat) (twice3_b : Bool) (t17_b : Int) (o5_b : List (List Bool)) (o6_b : List (List Bool)), R36_1 N T36_0 m (Sl36b t0 t12_a twice3_b t17_b o5_b o6_b) = l36b N t0 t12_a (fun y0 y1 => T36_0 (Sl36a t0 y0 y1)) m twice3_b t17_b o5_b o6_b
        | 0, _, _, _, _ => rfl
        | m + 1, twice3_b, t17_b, o5_b, o6_b => by rw [wl36b]; simp only [l36b, ql36b N t0 t12_a T36_0 m]
def l36a (N : Nat) (t0 : LL) : Nat → Bool → Int → Option (Bool)
 | 0, _, _ => none
 | n + 1, twice3_a, t12_a => cond (decide (t12_a < (t0.length : Int))) ((l36b N t0 t12_a (fun y0 y1 => (l36a N t0 n y0 y1)) N twice3_a (0 : Int) ([w0Z1] : List (List Bool)) ([w0Z1] : List (List Bool))))
   (some twice3_a)
theorem wl36a (N : Nat) (t0 : LL) (m : Nat) (twice3_a : Bool) (t12_a : Int) : R36_0 N (m + 1) (Sl36a t0 twice3_a t12_a) = cond (decide (t12_a < (t0.length : Int))) ((R36_1 N (R36_0 N m) N (Sl36b t0 t12_a twice3_a (0 : Int) ([w0Z1] : List (List Bool)) ([w0Z1] : List (List Bool)))))
   (some twice3_a) := by kernel_rfl
theorem ql36a (N : Nat) (t0 : LL) : ∀ (m : Nat) (twice3_a : Bool) (t12_a : Int), R36_0 N m (Sl36a t0 twice3_a t12_a) = l36a N t0 m twice3_a t12_a
        | 0, _, _ => rfl
        | m + 1, twice3_a, t12_a => by rw [wl36a]; simp only [l36a, ql36b, ql36a N t0 m]
def m36 (N : Nat) (t0 : LL) : Option (Bool) :=
   (l36a N t0 N false (0 : Int))
theorem wm36 (N : Nat) (t0 : LL) : callF (E36) lv36 N en36 c36 (resOf Try.f36) 48 [.dv (.sl w0Z0) t0] [] dec36 = (R36_0 N N (Sl36a t0 false (0 : Int))) := by kernel_rfl
theorem k36 (N : Nat) (t0 : LL) : callF (E36) lv36 N en36 c36 (resOf Try.f36) 48 [.dv (.sl w0Z0) t0] [] dec36 = m36 N t0 := by rw [wm36]; simp only [m36, ql36a]
theorem ok36 (a : LL → Option (Bool)) (h : ∀ t0 r, a t0 = some r → (∃ N, m36 N t0 = some r)) : FnOk Try.prog 36 (F36 a) := by
 intro args Of x hx
 simp only [F36] at hx
 split at hx
 ·rename_i t0
  obtain ⟨N, hN⟩ := h _ _ hx
  refine lifted (L := []) (rc := nrc) (fz := nfz) (fn := Try.f36) (by kernel_rfl) (by kernel_rfl) (by kernel_rfl) (by kernel_rfl) rfl ?_ ((k36 N _).trans hN) ?_
  ·intro p hp; cases hp
  ·intro l o hd
   simp only [dec36] at hd
   split at hd
   ·obtain rfl := oij hd; exact ⟨rfl, rfl⟩
   ·cases hd
 ·cases hx
def E13 (A : Wm0T0) (a31c32 : Wm0T7) (a33c35 : Wm0T3) (a34 : LL → Option (List Int)) (a36 : LL → Option (Bool)) : Env := mkE TI TY [(30, F30 A), (31, F31c32 a31c32), (33, F33c35 a33c35), (34, F34 a34), (36, F36 a36)] nrc nfz
noncomputable def c13 : Code := bodyOf Try.f13
def lv13 : Nat → Option Norm := norms []
def en13 : End := ⟨[], ⟨[23], [], [], []⟩⟩
def dec13 (l : List TV) (o : List (Nat × TO)) : Option (Int) := match l, o with | [.dv (.int .i64) x0], [] => some (x0) | _, _ => none
def m13 (A : Wm0T0) (a31c32 : Wm0T7) (a33c35 : Wm0T3) (a34 : LL → Option (List Int)) (a36 : LL → Option (Bool)) (N : Nat) (table0 : LL) : Option (Int) :=
   (A (2 : Int) (table0.length : Int) (10 : Int)).bind fun r1 =>
   cond (!r1) (some (3 : Int))
   ((a31c32 table0 (table0.length : Int)).bind fun r2 =>
   cond (r2.1) (some (3 : Int))
   ((a34 table0).bind fun r3 =>
   (a33c35 r3 r2.2).bind fun r4 =>
   cond (r4.1) (some (4 : Int))
   ((a36 table0).bind fun r5 =>
   cond (r5) (some (6 : Int))
   (some (0 : Int)))))
theorem k13 (A : Wm0T0) (a31c32 : Wm0T7) (a33c35 : Wm0T3) (a34 : LL → Option (List Int)) (a36 : LL → Option (Bool)) (N : Nat) (table0 : LL) : callF (E13 A a31c32 a33c35 a34 a36) lv13 N en13 c13 (resOf Try.f13) 22 [.dv (.sl w0Z0) table0] [] dec13 = m13 A a31c32 a33c35 a34 a36 N table0 := by kernel_rfl
theorem ok13 (A : Wm0T0) (a31c32 : Wm0T7) (a33c35 : Wm0T3) (a34 : LL → Option (List Int)) (a36 : LL → Option (Bool)) (h30 : FnOk Try.prog 30 (F30 A)) (h31c32 : FnOk Try.prog 31 (F31c32 a31c32)) (h33c35 : FnOk Try.prog 33 (F33c35 a33c35)) (h34 : FnOk Try.prog 34 (F34 a34)) (h36 : FnOk Try.prog 36 (F36 a36)) (a : LL → Option (Int)) (h : ∀ table0 r, a table0 = some r → (∃ N, m13 A a31c32 a33c35 a34 a36 N table0 = some r)) : FnOk Try.prog 13 (F13 a) := by
 intro args Of x hx
 simp only [F13] at hx
 split at hx
 ·rename_i table0
  obtain ⟨N, hN⟩ := h _ _ hx
  refine lifted (L := [(30, F30 A), (31, F31c32 a31c32), (33, F33c35 a33c35), (34, F34 a34), (36, F36 a36)]) (rc := nrc) (fz := nfz) (fn := Try.f13) (by kernel_rfl) (by kernel_rfl) (by kernel_rfl) (by kernel_rfl) rfl ?_ ((k13 A a31c32 a33c35 a34 a36 N _).trans hN) ?_
  ·intro p hp; simp only [List.mem_cons, List.not_mem_nil, or_false] at hp; rcases hp with rfl | rfl | rfl | rfl | rfl
   ·exact h30
   ·exact h31c32
   ·exact h33c35
   ·exact h34
   ·exact h36
  ·intro l o hd
   simp only [dec13] at hd
   split at hd
   ·obtain rfl := oij hd; exact ⟨rfl, rfl⟩
   ·cases hd
 ·cases hx
def E98c (A : Wm0T0) : Env := mkE TI TY [(30, F30 A)] nrc nfz
noncomputable def c98c : Code := bodyOf Try.f98
def lv98c : Nat → Option Norm := norms []
def en98c : End := ⟨[], ⟨[10], [9000], [], []⟩⟩
def dec98c (l : List TV) (o : List (Nat × TO)) : Option (Bool × LL) := match l, o with | [.dv (.bool) x0], [(9000, .rcd [.dv (.sl (.sl (.int .i64))) x1])] => some (x0, x1) | _, _ => none
def m98c (A : Wm0T0) (N : Nat) (d0 : Int) (p1 : LL) : Option (Bool × LL) :=
   (A (0 : Int) d0 (w64 ((p1.length : Int) - (1 : Int)))).bind fun r1 =>
   some (!r1, p1)
theorem k98c (A : Wm0T0) (N : Nat) (d0 : Int) (p1 : LL) : callF (E98c A) lv98c N en98c c98c (resOf Try.f98) 8 [.dv (.int .i64) d0, .ptr 9000 0 [0]] [(9000, .rcd [.dv (.sl w0Z0) p1])] dec98c = m98c A N d0 p1 := by kernel_rfl
theorem ok98c (A : Wm0T0) (h30 : FnOk Try.prog 30 (F30 A)) (a : Int → LL → Option (Bool × LL)) (h : ∀ d0 p1 r, a d0 p1 = some r → (∃ N, m98c A N d0 p1 = some r)) : FnOk Try.prog 98 (F98c a) := by
 intro args Of x hx
 simp only [F98c] at hx
 split at hx
 ·rename_i d0 p1
  obtain ⟨N, hN⟩ := h _ _ _ hx
  refine lifted (L := [(30, F30 A)]) (rc := nrc) (fz := nfz) (fn := Try.f98) (by kernel_rfl) (by kernel_rfl) (by kernel_rfl) (by kernel_rfl) rfl ?_ ((k98c A N _ _).trans hN) ?_
  ·intro p hp; simp only [List.mem_cons, List.not_mem_nil, or_false] at hp; rcases hp with rfl; exact h30
  ·intro l o hd
   simp only [dec98c] at hd
   split at hd
   ·obtain rfl := oij hd; exact ⟨rfl, rfl⟩
   ·cases hd
 ·cases hx
def E68c98 (Z : Wm0T8) : Env := mkE TI TY [(98, F98c Z)] nrc nfz
noncomputable def c68c98 : Code := bodyOf Try.f68
def nm68c98_0 : Norm := ⟨[0, 1, 7, 8], [9000], [], []⟩
def lv68c98 : Nat → Option Norm := norms [(2, nm68c98_0)]
def en68c98 : End := ⟨[], ⟨[19], [9000], [], []⟩⟩
def dec68c98 (l : List TV) (o : List (Nat × TO)) : Option (Int × LL) := match l, o with | [.dv (.int .i64) x0], [(9000, .rcd [.dv (.sl (.sl (.int .i64))) x1])] => some (x0, x1) | _, _ => none
def Sl68c98a (s0 : List Int) (t8_a : Int) (oC_af0 : LL) : TS := ⟨slots 19 [(0, .dv w0Z0 s0), (1, .fn 98 0 1 fun i => ([.ptr 9000 0 [0]] : List TV).getD i .any), (7, .dv (.int .i64) (s0.length : Int)), (8, .dv (.int .i64) t8_a)], [(9000, .rcd [.dv (.sl w0Z0) oC_af0])]⟩
noncomputable def K68c98_0 (Z : Wm0T8) (N : Nat) : Kont (Int × LL) := kont (E68c98 Z) lv68c98 N c68c98 [1, 0, 1, 0] (fin TI en68c98 (resOf Try.f68) dec68c98)
noncomputable def R68c98_0 (Z : Wm0T8) (N : Nat) (m : Nat) : TS → Option (Int × LL) := loopK (den (E68c98 Z) lv68c98 N (sub c68c98 [1, 0, 1, 0, 0])) (TS.norm nm68c98_0) (K68c98_0 Z N) m
def l68c98a (Z : Wm0T8) (N : Nat) (s0 : List Int) : Nat → Int → LL → Option (Int × LL)
 | 0, _, _ => none
 | n + 1, t8_a, oC_af0 => cond (decide (t8_a < (s0.length : Int))) (chk (decide (0 ≤ t8_a ∧ t8_a < (s0.length : Int))) ((Z (s0.getD t8_a.toNat 0) oC_af0).bind fun r1 =>
   cond (r1.1) (some (t8_a, r1.2))
   ((l68c98a Z N s0 n (w64 (t8_a + 1)) r1.2))))
   (some ((-1 : Int), oC_af0))
theorem wl68c98a (Z : Wm0T8) (N : Nat) (s0 : List Int) (m : Nat) (t8_a : Int) (oC_af0 : LL) : R68c98_0 Z N (m + 1) (Sl68c98a s0 t8_a oC_af0) = cond (decide (t8_a < (s0.length : Int))) (chk (decide (0 ≤ t8_a ∧ t8_a < (s0.length : Int))) ((Z (s0.getD t8_a.toNat 0) oC_af0).bind fun r1 =>
   cond (r1.1) (some (t8_a, r1.2))
   ((R68c98_0 Z N m (Sl68c98a s0 (w64 (t8_a + 1)) r1.2)))))
   (some ((-1 : Int), oC_af0)) := by kernel_rfl
theorem ql68c98a (Z : Wm0T8) (N : Nat) (s0 : List Int) : ∀ (m : Nat) (t8_a : Int) (oC_af0 : LL), R68c98_0 Z N m (Sl68c98a s0 t8_a oC_af0) = l68c98a Z N s0 m t8_a oC_af0
        | 0, _, _ => rfl
        | m + 1, t8_a, oC_af0 => by rw [wl68c98a]; simp only [l68c98a, ql68c98a Z N s0 m]
def m68c98 (Z : Wm0T8) (N : Nat) (s0 : List Int) (p1 : LL) : Option (Int × LL) :=
   (l68c98a Z N s0 N (0 : Int) p1)
theorem wm68c98 (Z : Wm0T8) (N : Nat) (s0 : List Int) (p1 : LL) : callF (E68c98 Z) lv68c98 N en68c98 c68c98 (resOf Try.f68) 17 [.dv w0Z0 s0, .fn 98 0 1 fun i => ([.ptr 9000 0 [0]] : List TV).getD i .any] [(9000, .rcd [.dv (.sl w0Z0) p1])] dec68c98 = (R68c98_0 Z N N (Sl68c98a s0 (0 : Int) p1)) := by kernel_rfl
theorem k68c98 (Z : Wm0T8) (N : Nat) (s0 : List Int) (p1 : LL) : callF (E68c98 Z) lv68c98 N en68c98 c68c98 (resOf Try.f68) 17 [.dv w0Z0 s0, .fn 98 0 1 fun i => ([.ptr 9000 0 [0]] : List TV).getD i .any] [(9000, .rcd [.dv (.sl w0Z0) p1])] dec68c98 = m68c98 Z N s0 p1 := by rw [wm68c98]; simp only [m68c98, ql68c98a]
theorem ok68c98 (Z : Wm0T8) (h98c : FnOk Try.prog 98 (F98c Z)) (a : (List Int) → LL → Option (Int × LL)) (h : ∀ s0 p1 r, a s0 p1 = some r → (∃ N, m68c98 Z N s0 p1 = some r)) : FnOk Try.prog 68 (F68c98 a) := by
 intro args Of x hx
 simp only [F68c98] at hx
 split at hx
 ·rename_i s0 f_0 p1 heqc
  have hc0 := congrArg (fun c : List (List TV) => c.getD 0 []) heqc
  obtain ⟨N, hN⟩ := h _ _ _ hx
  refine HSpec.etaL (args := [.dv w0Z0 s0, .fn 98 0 1 fun i => ([.ptr 9000 0 [0]] : List TV).getD i .any]) (O := [(9000, .rcd [.dv (.sl w0Z0) p1])]) ⟨TV.sim_refl _, TV.sim_fn hc0, trivial⟩ ⟨rfl, TO.sim_refl _, trivial⟩ (lifted (L := [(98, F98c Z)]) (rc := nrc) (fz := nfz) (fn := Try.f68) (by kernel_rfl) (by kernel_rfl) (by kernel_rfl) (by kernel_rfl) rfl ?_ ((k68c98 Z N _ _).trans hN) ?_)
  ·intro p hp; simp only [List.mem_cons, List.not_mem_nil, or_false] at hp; rcases hp with rfl; exact h98c
  ·intro l o hd
   simp only [dec68c98] at hd
   split at hd
   ·obtain rfl := oij hd; exact ⟨rfl, rfl⟩
   ·cases hd
 ·cases hx
def E33c98 (a68c98 : Wm0T9) : Env := mkE TI TY [(68, F68c98 a68c98)] nrc nfz
noncomputable def c33c98 : Code := bodyOf Try.f33
def lv33c98 : Nat → Option Norm := norms []
def en33c98 : End := ⟨[], ⟨[9], [9000], [], []⟩⟩
def dec33c98 (l : List TV) (o : List (Nat × TO)) : Option (Bool × LL) := match l, o with | [.dv (.bool) x0], [(9000, .rcd [.dv (.sl (.sl (.int .i64))) x1])] => some (x0, x1) | _, _ => none
def m33c98 (a68c98 : Wm0T9) (N : Nat) (s0 : List Int) (p1 : LL) : Option (Bool × LL) :=
   (a68c98 s0 p1).bind fun r1 =>
   some (decide (r1.1 ≥ (0 : Int)), r1.2)
theorem k33c98 (a68c98 : Wm0T9) (N : Nat) (s0 : List Int) (p1 : LL) : callF (E33c98 a68c98) lv33c98 N en33c98 c33c98 (resOf Try.f33) 7 [.dv w0Z0 s0, .fn 98 0 1 fun i => ([.ptr 9000 0 [0]] : List TV).getD i .any] [(9000, .rcd [.dv (.sl w0Z0) p1])] dec33c98 = m33c98 a68c98 N s0 p1 := by kernel_rfl
theorem ok33c98 (a68c98 : Wm0T9) (h68c98 : FnOk Try.prog 68 (F68c98 a68c98)) (a : (List Int) → LL → Option (Bool × LL)) (h : ∀ s0 p1 r, a s0 p1 = some r → (∃ N, m33c98 a68c98 N s0 p1 = some r)) : FnOk Try.prog 33 (F33c98 a) := by
 intro args Of x hx
 simp only [F33c98] at hx
 split at hx
 ·rename_i s0 f_0 p1 heqc
  have hc0 := congrArg (fun c : List (List TV) => c.getD 0 []) heqc
  obtain ⟨N, hN⟩ := h _ _ _ hx
  refine HSpec.etaL (args := [.dv w0Z0 s0, .fn 98 0 1 fun i => ([.ptr 9000 0 [0]] : List TV).getD i .any]) (O := [(9000, .rcd [.dv (.sl w0Z0) p1])]) ⟨TV.sim_refl _, TV.sim_fn hc0, trivial⟩ ⟨rfl, TO.sim_refl _, trivial⟩ (lifted (L := [(68, F68c98 a68c98)]) (rc := nrc) (fz := nfz) (fn := Try.f33) (by kernel_rfl) (by kernel_rfl) (by kernel_rfl) (by kernel_rfl) rfl ?_ ((k33c98 a68c98 N _ _).trans hN) ?_)
  ·intro p hp; simp only [List.mem_cons, List.not_mem_nil, or_false] at hp; rcases hp with rfl; exact h68c98
  ·intro l o hd
   simp only [dec33c98] at hd
   split at hd
   ·obtain rfl := oij hd; exact ⟨rfl, rfl⟩
   ·cases hd
 ·cases hx
def E84 (a13 : LL → Option (Int)) (a33c98 : Wm0T10) : Env := mkE TI TY [(13, F13 a13), (33, F33c98 a33c98)] nrc nfz
noncomputable def c84 : Code := bodyOf Try.f84
def lv84 : Nat → Option Norm := norms []
def en84 : End := ⟨[], ⟨[20], [], [], []⟩⟩
def dec84 (l : List TV) (o : List (Nat × TO)) : Option (Int) := match l, o with | [.dv (.int .i64) x0], [] => some (x0) | _, _ => none
def m84 (a13 : LL → Option (Int)) (a33c98 : Wm0T10) (N : Nat) (t0 : LL) (lx1 : List Int) : Option (Int) :=
   (a13 t0).bind fun r1 =>
   cond (r1 != (0 : Int)) (some r1)
   (cond (decide ((lx1.length : Int) > (12 : Int))) (some (2 : Int))
   ((a33c98 lx1 t0).bind fun r2 =>
   cond (r2.1) (some (4 : Int))
   (some (0 : Int))))
theorem k84 (a13 : LL → Option (Int)) (a33c98 : Wm0T10) (N : Nat) (t0 : LL) (lx1 : List Int) : callF (E84 a13 a33c98) lv84 N en84 c84 (resOf Try.f84) 18 [.dv (.sl w0Z0) t0, .dv w0Z0 lx1] [] dec84 = m84 a13 a33c98 N t0 lx1 := by kernel_rfl
theorem ok84 (a13 : LL → Option (Int)) (a33c98 : Wm0T10) (h13 : FnOk Try.prog 13 (F13 a13)) (h33c98 : FnOk Try.prog 33 (F33c98 a33c98)) (a : LL → (List Int) → Option (Int)) (h : ∀ t0 lx1 r, a t0 lx1 = some r → (∃ N, m84 a13 a33c98 N t0 lx1 = some r)) : FnOk Try.prog 84 (F84 a) := by
 intro args Of x hx
 simp only [F84] at hx
 split at hx
 ·rename_i t0 lx1
  obtain ⟨N, hN⟩ := h _ _ _ hx
  refine lifted (L := [(13, F13 a13), (33, F33c98 a33c98)]) (rc := nrc) (fz := nfz) (fn := Try.f84) (by kernel_rfl) (by kernel_rfl) (by kernel_rfl) (by kernel_rfl) rfl ?_ ((k84 a13 a33c98 N _ _).trans hN) ?_
  ·intro p hp; simp only [List.mem_cons, List.not_mem_nil, or_false] at hp; rcases hp with rfl | rfl
   ·exact h13
   ·exact h33c98
  ·intro l o hd
   simp only [dec84] at hd
   split at hd
   ·obtain rfl := oij hd; exact ⟨rfl, rfl⟩
   ·cases hd
 ·cases hx
def E50 (a53 : Wm0T11) (a84 : Wm0T12) : Env := mkE TI TY [(53, F53 a53), (84, F84 a84)] nrc nfz
noncomputable def c50 : Code := bodyOf Try.f50
def lv50 : Nat → Option Norm := norms []
def en50 : End := ⟨[], ⟨[16, 17], [], [], []⟩⟩
def dec50 (l : List TV) (o : List (Nat × TO)) : Option (Int × Int) := match l, o with | [.dv (.int .i64) x0, .dv (.int .i64) x1], [] => some (x0, x1) | _, _ => none
def m50 (a53 : Wm0T11) (a84 : Wm0T12) (N : Nat) (table0 : LL) (lx1 : List Int) : Option (Int × Int) :=
   (a84 table0 lx1).bind fun r1 =>
   cond (r1 != (0 : Int)) (some ((0 : Int), r1))
   ((a53 table0 (0 : Int) lx1).bind fun r2 =>
   some (r2, (0 : Int)))
theorem k50 (a53 : Wm0T11) (a84 : Wm0T12) (N : Nat) (table0 : LL) (lx1 : List Int) : callF (E50 a53 a84) lv50 N en50 c50 (resOf Try.f50) 14 [.dv (.sl w0Z0) table0, .dv w0Z0 lx1] [] dec50 = m50 a53 a84 N table0 lx1 := by kernel_rfl
theorem ok50 (a53 : Wm0T11) (a84 : Wm0T12) (h53 : FnOk Try.prog 53 (F53 a53)) (h84 : FnOk Try.prog 84 (F84 a84)) (a : LL → (List Int) → Option (Int × Int)) (h : ∀ table0 lx1 r, a table0 lx1 = some r → (∃ N, m50 a53 a84 N table0 lx1 = some r)) : FnOk Try.prog 50 (F50 a) := by
 intro args Of x hx
 simp only [F50] at hx
 split at hx
 ·rename_i table0 lx1
  obtain ⟨N, hN⟩ := h _ _ _ hx
  refine lifted (L := [(53, F53 a53), (84, F84 a84)]) (rc := nrc) (fz := nfz) (fn := Try.f50) (by kernel_rfl) (by kernel_rfl) (by kernel_rfl) (by kernel_rfl) rfl ?_ ((k50 a53 a84 N _ _).trans hN) ?_
  ·intro p hp; simp only [List.mem_cons, List.not_mem_nil, or_false] at hp; rcases hp with rfl | rfl
   ·exact h53
   ·exact h84
  ·intro l o hd
   simp only [dec50] at hd
   split at hd
   ·obtain rfl := oij hd; exact ⟨rfl, rfl⟩
   ·cases hd
 ·cases hx
def E51 : Env := mkE TI TY [] nrc nfz
noncomputable def c51 : Code := bodyOf Try.f51
def nm51_0 : Norm := ⟨[0, 1, 7, 8], [], [], []⟩
def lv51 : Nat → Option Norm := norms [(2, nm51_0)]
def en51 : End := ⟨[], ⟨[19], [], [], []⟩⟩
def dec51 (l : List TV) (o : List (Nat × TO)) : Option (Int) := match l, o with | [.dv (.int .i64) x0], [] => some (x0) | _, _ => none
def Sl51a (s0 : List Int) (v1 : Int) (t8_a : Int) : TS := ⟨slots 19 [(0, .dv w0Z0 s0), (1, .dv (.int .i64) v1), (7, .dv (.int .i64) (s0.length : Int)), (8, .dv (.int .i64) t8_a)], []⟩
noncomputable def K51_0 (N : Nat) : Kont (Int) := kont (E51) lv51 N c51 [1, 0, 1, 0] (fin TI en51 (resOf Try.f51) dec51)
noncomputable def R51_0 (N : Nat) (m : Nat) : TS → Option (Int) := loopK (den (E51) lv51 N (sub c51 [1, 0, 1, 0, 0])) (TS.norm nm51_0) (K51_0 N) m
def l51a (N : Nat) (s0 : List Int) (v1 : Int) : Nat → Int → Option (Int)
 | 0, _ => none
 | n + 1, t8_a => cond (decide (t8_a < (s0.length : Int))) (chk (decide (0 ≤ t8_a ∧ t8_a < (s0.length : Int))) (cond (v1 == (s0.getD t8_a.toNat 0)) (some t8_a)
   ((l51a N s0 v1 n (w64 (t8_a + 1))))))
   (some (-1 : Int))
theorem wl51a (N : Nat) (s0 : List Int) (v1 : Int) (m : Nat) (t8_a : Int) : R51_0 N (m + 1) (Sl51a s0 v1 t8_a) = cond (decide (t8_a < (s0.length : Int))) (chk (decide (0 ≤ t8_a ∧ t8_a < (s0.length : Int))) (cond (v1 == (s0.getD t8_a.toNat 0)) (some t8_a)
   ((R51_0 N m (Sl51a s0 v1 (w64 (t8_a + 1)))))))
   (some (-1 : Int)) := by kernel_rfl
theorem ql51a (N : Nat) (s0 : List Int) (v1 : Int) : ∀ (m : Nat) (t8_a : Int), R51_0 N m (Sl51a s0 v1 t8_a) = l51a N s0 v1 m t8_a
        | 0, _ => rfl
        | m + 1, t8_a => by rw [wl51a]; simp only [l51a, ql51a N s0 v1 m]
def m51 (N : Nat) (s0 : List Int) (v1 : Int) : Option (Int) :=
   (l51a N s0 v1 N (0 : Int))
theorem wm51 (N : Nat) (s0 : List Int) (v1 : Int) : callF (E51) lv51 N en51 c51 (resOf Try.f51) 17 [.dv w0Z0 s0, .dv (.int .i64) v1] [] dec51 = (R51_0 N N (Sl51a s0 v1 (0 : Int))) := by kernel_rfl
theorem k51 (N : Nat) (s0 : List Int) (v1 : Int) : callF (E51) lv51 N en51 c51 (resOf Try.f51) 17 [.dv w0Z0 s0, .dv (.int .i64) v1] [] dec51 = m51 N s0 v1 := by rw [wm51]; simp only [m51, ql51a]
theorem ok51 (a : (List Int) → Int → Option (Int)) (h : ∀ s0 v1 r, a s0 v1 = some r → (∃ N, m51 N s0 v1 = some r)) : FnOk Try.prog 51 (F51 a) := by
 intro args Of x hx
 simp only [F51] at hx
 split at hx
 ·rename_i s0 v1
  obtain ⟨N, hN⟩ := h _ _ _ hx
  refine lifted (L := []) (rc := nrc) (fz := nfz) (fn := Try.f51) (by kernel_rfl) (by kernel_rfl) (by kernel_rfl) (by kernel_rfl) rfl ?_ ((k51 N _ _).trans hN) ?_
  ·intro p hp; cases hp
  ·intro l o hd
   simp only [dec51] at hd
   split at hd
   ·obtain rfl := oij hd; exact ⟨rfl, rfl⟩
   ·cases hd
 ·cases hx
def E20 (a50 : Wm0T13) (a51 : Wm0T14) : Env := mkE TI TY [(50, F50 a50), (51, F51 a51)] nrc nfz
noncomputable def c20 : Code := bodyOf Try.f20
def lv20 : Nat → Option Norm := norms []
def en20 : End := ⟨[], ⟨[22, 23], [], [], []⟩⟩
def dec20 (l : List TV) (o : List (Nat × TO)) : Option (Int × Int) := match l, o with | [.dv (.int .i64) x0, .dv (.int .i64) x1], [] => some (x0, x1) | _, _ => none
def m20 (a50 : Wm0T13) (a51 : Wm0T14) (N : Nat) (table0 : LL) (lx1 : List Int) : Option (Int × Int) :=
   (a50 table0 lx1).bind fun r1 =>
   cond (r1.2 != (0 : Int)) (some ((0 : Int), r1.2))
   (chk (decide (0 ≤ r1.1 ∧ r1.1 < (table0.length : Int))) ((a51 (table0.getD r1.1.toNat ([] : List Int)) (0 : Int)).bind fun r2 =>
   some (r2, (0 : Int))))
theorem k20 (a50 : Wm0T13) (a51 : Wm0T14) (N : Nat) (table0 : LL) (lx1 : List Int) : callF (E20 a50 a51) lv20 N en20 c20 (resOf Try.f20) 20 [.dv (.sl w0Z0) table0, .dv w0Z0 lx1] [] dec20 = m20 a50 a51 N table0 lx1 := by kernel_rfl
theorem ok20 (a50 : Wm0T13) (a51 : Wm0T14) (h50 : FnOk Try.prog 50 (F50 a50)) (h51 : FnOk Try.prog 51 (F51 a51)) (a : LL → (List Int) → Option (Int × Int)) (h : ∀ table0 lx1 r, a table0 lx1 = some r → (∃ N, m20 a50 a51 N table0 lx1 = some r)) : FnOk Try.prog 20 (F20 a) := by
 intro args Of x hx
 simp only [F20] at hx
 split at hx
 ·rename_i table0 lx1
  obtain ⟨N, hN⟩ := h _ _ _ hx
  refine lifted (L := [(50, F50 a50), (51, F51 a51)]) (rc := nrc) (fz := nfz) (fn := Try.f20) (by kernel_rfl) (by kernel_rfl) (by kernel_rfl) (by kernel_rfl) rfl ?_ ((k20 a50 a51 N _ _).trans hN) ?_
  ·intro p hp; simp only [List.mem_cons, List.not_mem_nil, or_false] at hp; rcases hp with rfl | rfl
   ·exact h50
   ·exact h51
  ·intro l o hd
   simp only [dec20] at hd
   split at hd
   ·obtain rfl := oij hd; exact ⟨rfl, rfl⟩
   ·cases hd
 ·cases hx
def E91 : Env := mkE TI TY [] nrc nfz
noncomputable def c91 : Code := bodyOf Try.f91
def nm91_0 : Norm := ⟨[0, 1], [], [], []⟩
def lv91 : Nat → Option Norm := norms [(1, nm91_0)]
def en91 : End := ⟨[], ⟨[12], [], [], []⟩⟩
def dec91 (l : List TV) (o : List (Nat × TO)) : Option (Int) := match l, o with | [.dv (.int .i64) x0], [] => some (x0) | _, _ => none
def Sl91a (a0_a : Int) (b1_a : Int) : TS := ⟨slots 12 [(0, .dv (.int .i64) a0_a), (1, .dv (.int .i64) b1_a)], []⟩
noncomputable def K91_0 (N : Nat) : Kont (Int) := kont (E91) lv91 N c91 [1, 0, 0] (fin TI en91 (resOf Try.f91) dec91)
noncomputable def R91_0 (N : Nat) (m : Nat) : TS → Option (Int) := loopK (den (E91) lv91 N (sub c91 [1, 0, 0, 0])) (TS.norm nm91_0) (K91_0 N) m
def l91a (N : Nat) : Nat → Int → Int → Option (Int)
 | 0, _, _ => none
 | n + 1, a0_a, b1_a => cond (decide (b1_a > (0 : Int))) (chk (decide (b1_a ≠ (0 : Int))) ((l91a N n b1_a (Int.tmod a0_a b1_a))))
   (some a0_a)
theorem wl91a (N : Nat) (m : Nat) (a0_a : Int) (b1_a : Int) : R91_0 N (m + 1) (Sl91a a0_a b1_a) = cond (decide (b1_a > (0 : Int))) (chk (decide (b1_a ≠ (0 : Int))) ((R91_0 N m (Sl91a b1_a (Int.tmod a0_a b1_a)))))
   (some a0_a) := by kernel_rfl
theorem ql91a (N : Nat) : ∀ (m : Nat) (a0_a : Int) (b1_a : Int), R91_0 N m (Sl91a a0_a b1_a) = l91a N m a0_a b1_a
        | 0, _, _ => rfl
        | m + 1, a0_a, b1_a => by rw [wl91a]; simp only [l91a, ql91a N m]
def m91 (N : Nat) (ax0 : Int) (b1 : Int) : Option (Int) :=
   (l91a N N ax0 b1)
theorem wm91 (N : Nat) (ax0 : Int) (b1 : Int) : callF (E91) lv91 N en91 c91 (resOf Try.f91) 10 [.dv (.int .i64) ax0, .dv (.int .i64) b1] [] dec91 = (R91_0 N N (Sl91a ax0 b1)) := by kernel_rfl
theorem k91 (N : Nat) (ax0 : Int) (b1 : Int) : callF (E91) lv91 N en91 c91 (resOf Try.f91) 10 [.dv (.int .i64) ax0, .dv (.int .i64) b1] [] dec91 = m91 N ax0 b1 := by rw [wm91]; simp only [m91, ql91a]
theorem ok91 (a : Int → Int → Option (Int)) (h : ∀ ax0 b1 r, a ax0 b1 = some r → (∃ N, m91 N ax0 b1 = some r)) : FnOk Try.prog 91 (F91 a) := by
 intro args Of x hx
 simp only [F91] at hx
 split at hx
 ·rename_i ax0 b1
  obtain ⟨N, hN⟩ := h _ _ _ hx
  refine lifted (L := []) (rc := nrc) (fz := nfz) (fn := Try.f91) (by kernel_rfl) (by kernel_rfl) (by kernel_rfl) (by kernel_rfl) rfl ?_ ((k91 N _ _).trans hN) ?_
  ·intro p hp; cases hp
  ·intro l o hd
   simp only [dec91] at hd
   split at hd
   ·obtain rfl := oij hd; exact ⟨rfl, rfl⟩
   ·cases hd
 ·cases hx
def E75 (A : Wm0T0) (J : Wm0T15) : Env := mkE TI TY [(30, F30 A), (91, F91 J)] nrc (fun i => ([26] : List Nat).contains i)
noncomputable def c75 : Code := bodyOf Try.f75
def nm75_0 : Norm := ⟨[0, 1, 6, 28, 29], [26], [], []⟩
def nm75_1 : Norm := ⟨[0, 1, 6, 7, 28, 29, 32, 33], [26], [], []⟩
def lv75 : Nat → Option Norm := norms [(7, nm75_0), (10, nm75_1)]
def en75 : End := ⟨[(55, .sl (.sl (.int .i64)))], ⟨[55, 56], [], [], []⟩⟩
def dec75 (l : List TV) (o : List (Nat × TO)) : Option (LL × Int) := match l, o with | [.dv (.sl (.sl (.int .i64))) x0, .dv (.int .i64) x1], [] => some (x0, x1) | _, _ => none
def Sl75b (base0 : Int) (step1 : Int) (t29_a : Int) (t33_b : Int) (o26_b : LL) : TS := ⟨slots 55 [(0, .dv (.int .i64) base0), (1, .dv (.int .i64) step1), (6, .row 26), (7, .dv (.int .i64) t29_a), (28, .dv (.int .i64) ((List.replicate base0.toNat ([] : List Int)).length : Int)), (29, .dv (.int .i64) t29_a), (32, .dv (.int .i64) base0), (33, .dv (.int .i64) t33_b)], [(26, .mat (.int .i64) o26_b none)]⟩
def Sl75a (base0 : Int) (step1 : Int) (t29_a : Int) (o26_a : LL) : TS := ⟨slots 55 [(0, .dv (.int .i64) base0), (1, .dv (.int .i64) step1), (6, .row 26), (28, .dv (.int .i64) ((List.replicate base0.toNat ([] : List Int)).length : Int)), (29, .dv (.int .i64) t29_a)], [(26, .mat (.int .i64) o26_a none)]⟩
noncomputable def K75_0 (A : Wm0T0) (J : Wm0T15) (N : Nat) : Kont (LL × Int) := kont (E75 A J) lv75 N c75 [1, 1, 1, 0, 1, 0] (fin TI en75 (resOf Try.f75) dec75)
noncomputable def R75_0 (A : Wm0T0) (J : Wm0T15) (N : Nat) (m : Nat) : TS → Option (LL × Int) := loopK (den (E75 A J) lv75 N (sub c75 [1, 1, 1, 0, 1, 0, 0])) (TS.norm nm75_0) (K75_0 A J N) m
noncomputable def K75_1 (A : Wm0T0) (J : Wm0T15) (N : Nat) (T75_0 : TS → Option (LL × Int)) : Kont (LL × Int) := kont (E75 A J) lv75 N (sub c75 [1, 1, 1, 0, 1, 0, 0]) [1, 1, 0, 0, 1, 1, 0] (kloop (TS.norm nm75_0) (K75_0 A J N) T75_0)
noncomputable def R75_1 (A : Wm0T0) (J : Wm0T15) (N : Nat) (T75_0 : TS → Option (LL × Int)) (m : Nat) : TS → Option (LL × Int) := loopK (den (E75 A J) lv75 N (sub c75 [1, 1, 1, 0, 1, 0, 0, 1, 1, 0, 0, 1, 1, 0, 0])) (TS.norm nm75_1) (K75_1 A J N T75_0) m
def l75b (A : Wm0T0) (J : Wm0T15) (N : Nat) (base0 : Int) (step1 : Int) (t29_a : Int) (l75a' : Int → LL → Option (LL × Int)) : Nat → Int → LL → Option (LL × Int)
 | 0, _, _ => none
 | n + 1, t33_b, o26_b => cond (decide (t33_b < base0)) (chk (decide (0 ≤ t29_a ∧ t29_a < (o26_b.length : Int))) (chk (decide (base0 ≠ (0 : Int))) (chk (small ((o26_b.getD t29_a.toNat ([] : List Int)).length + 1) 8) (chk (decide (0 ≤ t29_a ∧ t29_a < (o26_b.length : Int))) (chk (decide (t29_a.toNat = t29_a.toNat)) ((l75b A J N base0 step1 t29_a l75a' n (w64 (t33_b + 1)) (o26_b.set t29_a.toNat ((o26_b.getD t29_a.toNat ([] : List Int)) ++ ([Int.tmod (w64 ((w64 (step1 * t29_a)) + t33_b)) base0] : List Int))))))))))
   ((l75a' (w64 (t29_a + 1)) o26_b))
theorem wl75b (A : Wm0T0) (J : Wm0T15) (N : Nat) (base0 : Int) (step1 : Int) (t29_a : Int) (T75_0 : TS → Option (LL × Int)) (m : Nat) (t33_b : Int) (o26_b : LL) : R75_1 A J N T75_0 (m + 1) (Sl75b base0 step1 t29_a t33_b o26_b) = cond (decide (t33_b < base0)) (chk (decide (0 ≤ t29_a ∧ t29_a < (o26_b.length : Int))) (chk (decide (base0 ≠ (0 : Int))) (chk (small ((o26_b.getD t29_a.toNat ([] : List Int)).length + 1) 8) (chk (decide (0 ≤ t29_a ∧ t29_a < (o26_b.length : Int))) (chk (decide (t29_a.toNat = t29_a.toNat)) ((R75_1 A J N T75_0 m (Sl75b base0 step1 t29_a (w64 (t33_b + 1)) (o26_b.set t29_a.toNat ((o26_b.getD t29_a.toNat ([] : List Int)) ++ ([Int.tmod (w64 ((w64 (step1 * t29_a)) + t33_b)) base0] : List Int)))))))))))
   ((T75_0 (Sl75a base0 step1 (w64 (t29_a + 1)) o26_b))) := by kernel_rfl
theorem ql75b (A : Wm0T0) (J : Wm0T15) (N : Nat) (base0 : Int) (step1 : Int) (t29_a : Int) (T75_0 : TS → Option (LL × Int)) : ∀ (m : Nat) (t33_b : Int) (o26_b : LL), R75_1 A J N T75_0 m (Sl75b base0 step1 t29_a t33_b o26_b) = l75b A J N base0 step1 t29_a (fun y0 y1 => T75_0 (Sl75a base0 step1 y0 y1)) m t33_b o26_b
        | 0, _, _ => rfl
        | m + 1, t33_b, o26_b => by rw [wl75b]; simp only [l75b, ql75b A J N base0 step1 t29_a T75_0 m]
def l75a (A : Wm0T0) (J : Wm0T15) (N : Nat) (base0 : Int) (step1 : Int) : Nat → Int → LL → Option (LL × Int)
 | 0, _, _ => none
 | n + 1, t29_a, o26_a => cond (decide (t29_a < ((List.replicate base0.toNat ([] : List Int)).length : Int))) ((l75b A J N base0 step1 t29_a (fun y0 y1 => (l75a A J N base0 step1 n y0 y1)) N (0 : Int) o26_a))
   (some (o26_a, (0 : Int)))
theorem wl75a (A : Wm0T0) (J : Wm0T15) (N : Nat) (base0 : Int) (step1 : Int) (m : Nat) (t29_a : Int) (o26_a : LL) : R75_0 A J N (m + 1) (Sl75a base0 step1 t29_a o26_a) = cond (decide (t29_a < ((List.replicate base0.toNat ([] : List Int)).length : Int))) ((R75_1 A J N (R75_0 A J N m) N (Sl75b base0 step1 t29_a (0 : Int) o26_a)))
   (some (o26_a, (0 : Int))) := by kernel_rfl
theorem ql75a (A : Wm0T0) (J : Wm0T15) (N : Nat) (base0 : Int) (step1 : Int) : ∀ (m : Nat) (t29_a : Int) (o26_a : LL), R75_0 A J N m (Sl75a base0 step1 t29_a o26_a) = l75a A J N base0 step1 m t29_a o26_a
        | 0, _, _ => rfl
        | m + 1, t29_a, o26_a => by rw [wl75a]; simp only [l75a, ql75b, ql75a A J N base0 step1 m]
def m75 (A : Wm0T0) (J : Wm0T15) (N : Nat) (base0 : Int) (step1 : Int) : Option (LL × Int) :=
   (A (2 : Int) base0 (10 : Int)).bind fun r1 =>
   cond (!r1) (some (([] : LL), (4 : Int)))
   ((A (1 : Int) step1 (w64 (base0 - (1 : Int)))).bind fun r2 =>
   cond (!r2) (some (([] : LL), (4 : Int)))
   ((J base0 step1).bind fun r3 =>
   cond (decide (r3 > (1 : Int))) (some (([] : LL), (12 : Int)))
   (chk (mkOk base0 base0 24) ((l75a A J N base0 step1 N (0 : Int) (List.replicate base0.toNat ([] : List Int)))))))
theorem wm75 (A : Wm0T0) (J : Wm0T15) (N : Nat) (base0 : Int) (step1 : Int) : callF (E75 A J) lv75 N en75 c75 (resOf Try.f75) 53 [.dv (.int .i64) base0, .dv (.int .i64) step1] [] dec75 = (A (2 : Int) base0 (10 : Int)).bind fun r1 =>
   cond (!r1) (some (([] : LL), (4 : Int)))
   ((A (1 : Int) step1 (w64 (base0 - (1 : Int)))).bind fun r2 =>
   cond (!r2) (some (([] : LL), (4 : Int)))
   ((J base0 step1).bind fun r3 =>
   cond (decide (r3 > (1 : Int))) (some (([] : LL), (12 : Int)))
   (chk (mkOk base0 base0 24) ((R75_0 A J N N (Sl75a base0 step1 (0 : Int) (List.replicate base0.toNat ([] : List Int)))))))) := by kernel_rfl
theorem k75 (A : Wm0T0) (J : Wm0T15) (N : Nat) (base0 : Int) (step1 : Int) : callF (E75 A J) lv75 N en75 c75 (resOf Try.f75) 53 [.dv (.int .i64) base0, .dv (.int .i64) step1] [] dec75 = m75 A J N base0 step1 := by rw [wm75]; simp only [m75, ql75a]
theorem ok75 (A : Wm0T0) (J : Wm0T15) (h30 : FnOk Try.prog 30 (F30 A)) (h91 : FnOk Try.prog 91 (F91 J)) (a : Int → Int → Option (LL × Int)) (h : ∀ base0 step1 r, a base0 step1 = some r → (∃ N, m75 A J N base0 step1 = some r)) : FnOk Try.prog 75 (F75 a) := by
 intro args Of x hx
 simp only [F75] at hx
 split at hx
 ·rename_i base0 step1
  obtain ⟨N, hN⟩ := h _ _ _ hx
  refine lifted (L := [(30, F30 A), (91, F91 J)]) (rc := nrc) (fz := (fun i => ([26] : List Nat).contains i)) (fn := Try.f75) (by kernel_rfl) (by kernel_rfl) (by kernel_rfl) (by kernel_rfl) rfl ?_ ((k75 A J N _ _).trans hN) ?_
  ·intro p hp; simp only [List.mem_cons, List.not_mem_nil, or_false] at hp; rcases hp with rfl | rfl
   ·exact h30
   ·exact h91
  ·intro l o hd
   simp only [dec75] at hd
   split at hd
   ·obtain rfl := oij hd; exact ⟨rfl, rfl⟩
   ·cases hd
 ·cases hx
def E99 : Env := mkE TI TY [] nrc nfz
noncomputable def c99 : Code := bodyOf Try.f99
def lv99 : Nat → Option Norm := norms []
def en99 : End := ⟨[], ⟨[15], [], [], []⟩⟩
def dec99 (l : List TV) (o : List (Nat × TO)) : Option (Bool) := match l, o with | [.dv (.bool) x0], [] => some (x0) | _, _ => none
def m99 (N : Nat) (lo0 : Int) (n1 : Int) (hi2 : Int) : Option (Bool) :=
   cond (decide (lo0 ≤ n1)) (some (decide (n1 ≤ hi2)))
   (some false)
theorem k99 (N : Nat) (lo0 : Int) (n1 : Int) (hi2 : Int) : callF (E99) lv99 N en99 c99 (resOf Try.f99) 12 [.dv (.int .i64) lo0, .dv (.int .i64) n1, .dv (.int .i64) hi2] [] dec99 = m99 N lo0 n1 hi2 := by kernel_rfl
theorem ok99 (a : Int → Int → Int → Option (Bool)) (h : ∀ lo0 n1 hi2 r, a lo0 n1 hi2 = some r → (∃ N, m99 N lo0 n1 hi2 = some r)) : FnOk Try.prog 99 (F99 a) := by
 intro args Of x hx
 simp only [F99] at hx
 split at hx
 ·rename_i lo0 n1 hi2
  obtain ⟨N, hN⟩ := h _ _ _ _ hx
  refine lifted (L := []) (rc := nrc) (fz := nfz) (fn := Try.f99) (by kernel_rfl) (by kernel_rfl) (by kernel_rfl) (by kernel_rfl) rfl ?_ ((k99 N _ _ _).trans hN) ?_
  ·intro p hp; cases hp
  ·intro l o hd
   simp only [dec99] at hd
   split at hd
   ·obtain rfl := oij hd; exact ⟨rfl, rfl⟩
   ·cases hd
 ·cases hx
def E100c (B : Wm0T0) : Env := mkE TI TY [(99, F99 B)] nrc nfz
noncomputable def c100c : Code := bodyOf Try.f100
def lv100c : Nat → Option Norm := norms []
def en100c : End := ⟨[], ⟨[10], [9000], [], []⟩⟩
def dec100c (l : List TV) (o : List (Nat × TO)) : Option (Bool × List (Int × LL × Unit)) := match l, o with | [.dv (.bool) x0], [(9000, .row (.pair (.int .i64) (.pair (.sl (.sl (.int .i64))) (.unit))) x1)] => some (x0, x1) | _, _ => none
def m100c (B : Wm0T0) (N : Nat) (cx0 : Int) (p1 : List (Int × LL × Unit)) : Option (Bool × List (Int × LL × Unit)) :=
   (B (0 : Int) cx0 (w64 (((p1.getD 0 ((0 : Int), (([] : LL), ()))).1) - (1 : Int)))).bind fun r1 =>
   some (!r1, p1)
theorem k100c (B : Wm0T0) (N : Nat) (cx0 : Int) (p1 : List (Int × LL × Unit)) : callF (E100c B) lv100c N en100c c100c (resOf Try.f100) 8 [.dv (.int .i64) cx0, .ptr 9000 0 []] [(9000, .row w0Z2 p1)] dec100c = m100c B N cx0 p1 := by kernel_rfl
theorem ok100c (B : Wm0T0) (h99 : FnOk Try.prog 99 (F99 B)) (a : Int → (List (Int × LL × Unit)) → Option (Bool × List (Int × LL × Unit))) (h : ∀ cx0 p1 r, a cx0 p1 = some r → (∃ N, m100c B N cx0 p1 = some r)) : FnOk Try.prog 100 (F100c a) := by
 intro args Of x hx
 simp only [F100c] at hx
 split at hx
 ·rename_i cx0 p1
  obtain ⟨N, hN⟩ := h _ _ _ hx
  refine lifted (L := [(99, F99 B)]) (rc := nrc) (fz := nfz) (fn := Try.f100) (by kernel_rfl) (by kernel_rfl) (by kernel_rfl) (by kernel_rfl) rfl ?_ ((k100c B N _ _).trans hN) ?_
  ·intro p hp; simp only [List.mem_cons, List.not_mem_nil, or_false] at hp; rcases hp with rfl; exact h99
  ·intro l o hd
   simp only [dec100c] at hd
   split at hd
   ·obtain rfl := oij hd; exact ⟨rfl, rfl⟩
   ·cases hd
 ·cases hx
def E68c100 (a100c : Wm0T16) : Env := mkE TI TY [(100, F100c a100c)] nrc nfz
noncomputable def c68c100 : Code := bodyOf Try.f68
def nm68c100_0 : Norm := ⟨[0, 1, 7, 8], [9000], [], []⟩
def lv68c100 : Nat → Option Norm := norms [(2, nm68c100_0)]
def en68c100 : End := ⟨[], ⟨[19], [9000], [], []⟩⟩
def dec68c100 (l : List TV) (o : List (Nat × TO)) : Option (Int × List (Int × LL × Unit)) := match l, o with | [.dv (.int .i64) x0], [(9000, .row (.pair (.int .i64) (.pair (.sl (.sl (.int .i64))) (.unit))) x1)] => some (x0, x1) | _, _ => none
def Sl68c100a (s0 : List Int) (t8_a : Int) (oC_a : Wm0T17) : TS := ⟨slots 19 [(0, .dv w0Z0 s0), (1, .fn 100 0 1 fun i => ([.ptr 9000 0 []] : List TV).getD i .any), (7, .dv (.int .i64) (s0.length : Int)), (8, .dv (.int .i64) t8_a)], [(9000, .row w0Z2 oC_a)]⟩
noncomputable def K68c100_0 (a100c : Wm0T16) (N : Nat) : Kont (Int × List (Int × LL × Unit)) := kont (E68c100 a100c) lv68c100 N c68c100 [1, 0, 1, 0] (fin TI en68c100 (resOf Try.f68) dec68c100)
noncomputable def R68c100_0 (a100c : Wm0T16) (N : Nat) (m : Nat) : TS → Option (Int × List (Int × LL × Unit)) := loopK (den (E68c100 a100c) lv68c100 N (sub c68c100 [1, 0, 1, 0, 0])) (TS.norm nm68c100_0) (K68c100_0 a100c N) m
def l68c100a (a100c : Wm0T16) (N : Nat) (s0 : List Int) : Nat → Int → (List (Int × LL × Unit)) → Option (Int × List (Int × LL × Unit))
 | 0, _, _ => none
 | n + 1, t8_a, oC_a => cond (decide (t8_a < (s0.length : Int))) (chk (decide (0 ≤ t8_a ∧ t8_a < (s0.length : Int))) ((a100c (s0.getD t8_a.toNat 0) oC_a).bind fun r1 =>
   cond (r1.1) (some (t8_a, r1.2))
   ((l68c100a a100c N s0 n (w64 (t8_a + 1)) r1.2))))
   (some ((-1 : Int), oC_a))
theorem wl68c100a (a100c : Wm0T16) (N : Nat) (s0 : List Int) (m : Nat) (t8_a : Int) (oC_a : Wm0T17) : R68c100_0 a100c N (m + 1) (Sl68c100a s0 t8_a oC_a) = cond (decide (t8_a < (s0.length : Int))) (chk (decide (0 ≤ t8_a ∧ t8_a < (s0.length : Int))) ((a100c (s0.getD t8_a.toNat 0) oC_a).bind fun r1 =>
   cond (r1.1) (some (t8_a, r1.2))
   ((R68c100_0 a100c N m (Sl68c100a s0 (w64 (t8_a + 1)) r1.2)))))
   (some ((-1 : Int), oC_a)) := by kernel_rfl
theorem ql68c100a (a100c : Wm0T16) (N : Nat) (s0 : List Int) : ∀ (m : Nat) (t8_a : Int) (oC_a : Wm0T17), R68c100_0 a100c N m (Sl68c100a s0 t8_a oC_a) = l68c100a a100c N s0 m t8_a oC_a
        | 0, _, _ => rfl
        | m + 1, t8_a, oC_a => by rw [wl68c100a]; simp only [l68c100a, ql68c100a a100c N s0 m]
def m68c100 (a100c : Wm0T16) (N : Nat) (s0 : List Int) (p1 : List (Int × LL × Unit)) : Option (Int × List (Int × LL × Unit)) :=
   (l68c100a a100c N s0 N (0 : Int) p1)
theorem wm68c100 (a100c : Wm0T16) (N : Nat) (s0 : List Int) (p1 : List (Int × LL × Unit)) : callF (E68c100 a100c) lv68c100 N en68c100 c68c100 (resOf Try.f68) 17 [.dv w0Z0 s0, .fn 100 0 1 fun i => ([.ptr 9000 0 []] : List TV).getD i .any] [(9000, .row w0Z2 p1)] dec68c100 = (R68c100_0 a100c N N (Sl68c100a s0 (0 : Int) p1)) := by kernel_rfl
theorem k68c100 (a100c : Wm0T16) (N : Nat) (s0 : List Int) (p1 : List (Int × LL × Unit)) : callF (E68c100 a100c) lv68c100 N en68c100 c68c100 (resOf Try.f68) 17 [.dv w0Z0 s0, .fn 100 0 1 fun i => ([.ptr 9000 0 []] : List TV).getD i .any] [(9000, .row w0Z2 p1)] dec68c100 = m68c100 a100c N s0 p1 := by rw [wm68c100]; simp only [m68c100, ql68c100a]
theorem ok68c100 (a100c : Wm0T16) (h100c : FnOk Try.prog 100 (F100c a100c)) (a : (List Int) → (List (Int × LL × Unit)) → Option (Int × List (Int × LL × Unit))) (h : ∀ s0 p1 r, a s0 p1 = some r → (∃ N, m68c100 a100c N s0 p1 = some r)) : FnOk Try.prog 68 (F68c100 a) := by
 intro args Of x hx
 simp only [F68c100] at hx
 split at hx
 ·rename_i s0 f_0 p1 heqc
  have hc0 := congrArg (fun c : List (List TV) => c.getD 0 []) heqc
  obtain ⟨N, hN⟩ := h _ _ _ hx
  refine HSpec.etaL (args := [.dv w0Z0 s0, .fn 100 0 1 fun i => ([.ptr 9000 0 []] : List TV).getD i .any]) (O := [(9000, .row w0Z2 p1)]) ⟨TV.sim_refl _, TV.sim_fn hc0, trivial⟩ ⟨rfl, TO.sim_refl _, trivial⟩ (lifted (L := [(100, F100c a100c)]) (rc := nrc) (fz := nfz) (fn := Try.f68) (by kernel_rfl) (by kernel_rfl) (by kernel_rfl) (by kernel_rfl) rfl ?_ ((k68c100 a100c N _ _).trans hN) ?_)
  ·intro p hp; simp only [List.mem_cons, List.not_mem_nil, or_false] at hp; rcases hp with rfl; exact h100c
  ·intro l o hd
   simp only [dec68c100] at hd
   split at hd
   ·obtain rfl := oij hd; exact ⟨rfl, rfl⟩
   ·cases hd
 ·cases hx
def E33c100 (a68c100 : Wm0T18) : Env := mkE TI TY [(68, F68c100 a68c100)] nrc nfz
noncomputable def c33c100 : Code := bodyOf Try.f33
def lv33c100 : Nat → Option Norm := norms []
def en33c100 : End := ⟨[], ⟨[9], [9000], [], []⟩⟩
def dec33c100 (l : List TV) (o : List (Nat × TO)) : Option (Bool × List (Int × LL × Unit)) := match l, o with | [.dv (.bool) x0], [(9000, .row (.pair (.int .i64) (.pair (.sl (.sl (.int .i64))) (.unit))) x1)] => some (x0, x1) | _, _ => none
def m33c100 (a68c100 : Wm0T18) (N : Nat) (s0 : List Int) (p1 : List (Int × LL × Unit)) : Option (Bool × List (Int × LL × Unit)) :=
   (a68c100 s0 p1).bind fun r1 =>
   some (decide (r1.1 ≥ (0 : Int)), r1.2)
theorem k33c100 (a68c100 : Wm0T18) (N : Nat) (s0 : List Int) (p1 : List (Int × LL × Unit)) : callF (E33c100 a68c100) lv33c100 N en33c100 c33c100 (resOf Try.f33) 7 [.dv w0Z0 s0, .fn 100 0 1 fun i => ([.ptr 9000 0 []] : List TV).getD i .any] [(9000, .row w0Z2 p1)] dec33c100 = m33c100 a68c100 N s0 p1 := by kernel_rfl
theorem ok33c100 (a68c100 : Wm0T18) (h68c100 : FnOk Try.prog 68 (F68c100 a68c100)) (a : (List Int) → (List (Int × LL × Unit)) → Option (Bool × List (Int × LL × Unit))) (h : ∀ s0 p1 r, a s0 p1 = some r → (∃ N, m33c100 a68c100 N s0 p1 = some r)) : FnOk Try.prog 33 (F33c100 a) := by
 intro args Of x hx
 simp only [F33c100] at hx
 split at hx
 ·rename_i s0 f_0 p1 heqc
  have hc0 := congrArg (fun c : List (List TV) => c.getD 0 []) heqc
  obtain ⟨N, hN⟩ := h _ _ _ hx
  refine HSpec.etaL (args := [.dv w0Z0 s0, .fn 100 0 1 fun i => ([.ptr 9000 0 []] : List TV).getD i .any]) (O := [(9000, .row w0Z2 p1)]) ⟨TV.sim_refl _, TV.sim_fn hc0, trivial⟩ ⟨rfl, TO.sim_refl _, trivial⟩ (lifted (L := [(68, F68c100 a68c100)]) (rc := nrc) (fz := nfz) (fn := Try.f33) (by kernel_rfl) (by kernel_rfl) (by kernel_rfl) (by kernel_rfl) rfl ?_ ((k33c100 a68c100 N _ _).trans hN) ?_)
  ·intro p hp; simp only [List.mem_cons, List.not_mem_nil, or_false] at hp; rcases hp with rfl; exact h68c100
  ·intro l o hd
   simp only [dec33c100] at hd
   split at hd
   ·obtain rfl := oij hd; exact ⟨rfl, rfl⟩
   ·cases hd
 ·cases hx
def E92 (a33c100 : Wm0T19) (B : Wm0T0) : Env := mkE TI TY [(33, F33c100 a33c100), (99, F99 B)] nrc nfz
noncomputable def c92 : Code := bodyOf Try.f92
def nm92_0 : Norm := ⟨[1, 21, 22, 23], [1], [], []⟩
def lv92 : Nat → Option Norm := norms [(8, nm92_0)]
def en92 : End := ⟨[], ⟨[38], [], [], []⟩⟩
def dec92 (l : List TV) (o : List (Nat × TO)) : Option (Int) := match l, o with | [.dv (.int .i64) x0], [] => some (x0) | _, _ => none
def Sl92a (p0 : Int × LL × Unit) (t23_a : Int) (o1_a : Wm0T17) : TS := ⟨slots 38 [(1, .ptr 1 0 []), (21, .dv (.sl w0Z0) p0.2.1), (22, .dv (.int .i64) (p0.2.1.length : Int)), (23, .dv (.int .i64) t23_a)], [(1, .row w0Z2 o1_a)]⟩
noncomputable def K92_0 (a33c100 : Wm0T19) (B : Wm0T0) (N : Nat) : Kont (Int) := kont (E92 a33c100 B) lv92 N c92 [1, 1, 0, 1, 0] (fin TI en92 (resOf Try.f92) dec92)
noncomputable def R92_0 (a33c100 : Wm0T19) (B : Wm0T0) (N : Nat) (m : Nat) : TS → Option (Int) := loopK (den (E92 a33c100 B) lv92 N (sub c92 [1, 1, 0, 1, 0, 0])) (TS.norm nm92_0) (K92_0 a33c100 B N) m
def l92a (a33c100 : Wm0T19) (B : Wm0T0) (N : Nat) (p0 : Int × LL × Unit) : Nat → Int → (List (Int × LL × Unit)) → Option (Int)
 | 0, _, _ => none
 | n + 1, t23_a, o1_a => cond (decide (t23_a < (p0.2.1.length : Int))) (chk (decide (0 ≤ t23_a ∧ t23_a < (p0.2.1.length : Int))) (cond (((p0.2.1.getD t23_a.toNat ([] : List Int)).length : Int) != ((o1_a.getD 0 ((0 : Int), (([] : LL), ()))).1)) (some (3 : Int))
   ((a33c100 (p0.2.1.getD t23_a.toNat ([] : List Int)) o1_a).bind fun r2 =>
   cond (r2.1) (some (4 : Int))
   ((l92a a33c100 B N p0 n (w64 (t23_a + 1)) r2.2)))))
   (some (0 : Int))
theorem wl92a (a33c100 : Wm0T19) (B : Wm0T0) (N : Nat) (p0 : Int × LL × Unit) (m : Nat) (t23_a : Int) (o1_a : Wm0T17) : R92_0 a33c100 B N (m + 1) (Sl92a p0 t23_a o1_a) = cond (decide (t23_a < (p0.2.1.length : Int))) (chk (decide (0 ≤ t23_a ∧ t23_a < (p0.2.1.length : Int))) (cond (((p0.2.1.getD t23_a.toNat ([] : List Int)).length : Int) != ((o1_a.getD 0 ((0 : Int), (([] : LL), ()))).1)) (some (3 : Int))
   ((a33c100 (p0.2.1.getD t23_a.toNat ([] : List Int)) o1_a).bind fun r2 =>
   cond (r2.1) (some (4 : Int))
   ((R92_0 a33c100 B N m (Sl92a p0 (w64 (t23_a + 1)) r2.2))))))
   (some (0 : Int)) := by kernel_rfl
theorem ql92a (a33c100 : Wm0T19) (B : Wm0T0) (N : Nat) (p0 : Int × LL × Unit) : ∀ (m : Nat) (t23_a : Int) (o1_a : Wm0T17), R92_0 a33c100 B N m (Sl92a p0 t23_a o1_a) = l92a a33c100 B N p0 m t23_a o1_a
        | 0, _, _ => rfl
        | m + 1, t23_a, o1_a => by rw [wl92a]; simp only [l92a, ql92a a33c100 B N p0 m]
def m92 (a33c100 : Wm0T19) (B : Wm0T0) (N : Nat) (p0 : Int × LL × Unit) : Option (Int) :=
   (B (2 : Int) p0.1 (7 : Int)).bind fun r1 =>
   cond (!r1) (some (4 : Int))
   (cond ((p0.2.1.length : Int) == (0 : Int)) (some (1 : Int))
   (cond (decide ((p0.2.1.length : Int) > (6 : Int))) (some (2 : Int))
   ((l92a a33c100 B N p0 N (0 : Int) ([p0] : List (Int × LL × Unit))))))
theorem wm92 (a33c100 : Wm0T19) (B : Wm0T0) (N : Nat) (p0 : Int × LL × Unit) : callF (E92 a33c100 B) lv92 N en92 c92 (resOf Try.f92) 37 [.dv w0Z2 p0] [] dec92 = (B (2 : Int) p0.1 (7 : Int)).bind fun r1 =>
   cond (!r1) (some (4 : Int))
   (cond ((p0.2.1.length : Int) == (0 : Int)) (some (1 : Int))
   (cond (decide ((p0.2.1.length : Int) > (6 : Int))) (some (2 : Int))
   ((R92_0 a33c100 B N N (Sl92a p0 (0 : Int) ([p0] : List (Int × LL × Unit))))))) := by kernel_rfl
theorem k92 (a33c100 : Wm0T19) (B : Wm0T0) (N : Nat) (p0 : Int × LL × Unit) : callF (E92 a33c100 B) lv92 N en92 c92 (resOf Try.f92) 37 [.dv w0Z2 p0] [] dec92 = m92 a33c100 B N p0 := by rw [wm92]; simp only [m92, ql92a]
theorem ok92 (a33c100 : Wm0T19) (B : Wm0T0) (h33c100 : FnOk Try.prog 33 (F33c100 a33c100)) (h99 : FnOk Try.prog 99 (F99 B)) (a : (Int × LL × Unit) → Option (Int)) (h : ∀ p0 r, a p0 = some r → (∃ N, m92 a33c100 B N p0 = some r)) : FnOk Try.prog 92 (F92 a) := by
 intro args Of x hx
 simp only [F92] at hx
 split at hx
 ·rename_i p0
  obtain ⟨N, hN⟩ := h _ _ hx
  refine lifted (L := [(33, F33c100 a33c100), (99, F99 B)]) (rc := nrc) (fz := nfz) (fn := Try.f92) (by kernel_rfl) (by kernel_rfl) (by kernel_rfl) (by kernel_rfl) rfl ?_ ((k92 a33c100 B N _).trans hN) ?_
  ·intro p hp; simp only [List.mem_cons, List.not_mem_nil, or_false] at hp; rcases hp with rfl | rfl
   ·exact h33c100
   ·exact h99
  ·intro l o hd
   simp only [dec92] at hd
   split at hd
   ·obtain rfl := oij hd; exact ⟨rfl, rfl⟩
   ·cases hd
 ·cases hx
def E93 (B : Wm0T0) : Env := mkE TI TY [(99, F99 B)] nrc nfz
noncomputable def c93 : Code := bodyOf Try.f93
def nm93_0 : Norm := ⟨[2, 6, 7, 10, 11, 12], [2], [], []⟩
def lv93 : Nat → Option Norm := norms [(4, nm93_0)]
def en93 : End := ⟨[], ⟨[34, 35], [], [], []⟩⟩
def dec93 (l : List TV) (o : List (Nat × TO)) : Option (Int × Int) := match l, o with | [.dv (.int .u8) x0, .dv (.int .i64) x1], [] => some (x0, x1) | _, _ => none
def Sl93a (p0 : Int × LL × Unit) (lx1 : List Int) (out6_a : Int) (last7_a : Int) (t12_a : Int) : TS := ⟨slots 34 [(2, .ptr 2 0 []), (6, .dv (.int .u8) out6_a), (7, .dv (.int .i64) last7_a), (10, .dv w0Z0 lx1), (11, .dv (.int .i64) (lx1.length : Int)), (12, .dv (.int .i64) t12_a)], [(2, .row w0Z2 ([p0] : List (Int × LL × Unit)))]⟩
noncomputable def K93_0 (B : Wm0T0) (N : Nat) : Kont (Int × Int) := kont (E93 B) lv93 N c93 [1, 1, 1, 0, 1, 0] (fin TI en93 (resOf Try.f93) dec93)
noncomputable def R93_0 (B : Wm0T0) (N : Nat) (m : Nat) : TS → Option (Int × Int) := loopK (den (E93 B) lv93 N (sub c93 [1, 1, 1, 0, 1, 0, 0])) (TS.norm nm93_0) (K93_0 B N) m
def l93a (B : Wm0T0) (N : Nat) (p0 : Int × LL × Unit) (lx1 : List Int) : Nat → Int → Int → Int → Option (Int × Int)
 | 0, _, _, _ => none
 | n + 1, out6_a, last7_a, t12_a => cond (decide (t12_a < (lx1.length : Int))) (chk (decide (0 ≤ t12_a ∧ t12_a < (lx1.length : Int))) ((B (0 : Int) (lx1.getD t12_a.toNat 0) (w64 (p0.1 - (1 : Int)))).bind fun r1 =>
   cond (!r1) (some ((0 : Int), (5 : Int)))
   (cond (decide ((lx1.getD t12_a.toNat 0) ≤ last7_a)) (some ((0 : Int), (7 : Int)))
   (chk (decide (0 ≤ lx1.getD t12_a.toNat 0)) ((l93a B N p0 lx1 n (bOr .u8 out6_a (IntKind.wrap .u8 ((1 : Int) * 2 ^ min (Int.toNat (lx1.getD t12_a.toNat 0)) 8))) (lx1.getD t12_a.toNat 0) (w64 (t12_a + 1))))))))
   (some (out6_a, (0 : Int)))
theorem wl93a (B : Wm0T0) (N : Nat) (p0 : Int × LL × Unit) (lx1 : List Int) (m : Nat) (out6_a : Int) (last7_a : Int) (t12_a : Int) : R93_0 B N (m + 1) (Sl93a p0 lx1 out6_a last7_a t12_a) = cond (decide (t12_a < (lx1.length : Int))) (chk (decide (0 ≤ t12_a ∧ t12_a < (lx1.length : Int))) ((B (0 : Int) (lx1.getD t12_a.toNat 0) (w64 (p0.1 - (1 : Int)))).bind fun r1 =>
   cond (!r1) (some ((0 : Int), (5 : Int)))
   (cond (decide ((lx1.getD t12_a.toNat 0) ≤ last7_a)) (some ((0 : Int), (7 : Int)))
   (chk (decide (0 ≤ lx1.getD t12_a.toNat 0)) ((R93_0 B N m (Sl93a p0 lx1 (bOr .u8 out6_a (IntKind.wrap .u8 ((1 : Int) * 2 ^ min (Int.toNat (lx1.getD t12_a.toNat 0)) 8))) (lx1.getD t12_a.toNat 0) (w64 (t12_a + 1)))))))))
   (some (out6_a, (0 : Int))) := by kernel_rfl
theorem ql93a (B : Wm0T0) (N : Nat) (p0 : Int × LL × Unit) (lx1 : List Int) : ∀ (m : Nat) (out6_a : Int) (last7_a : Int) (t12_a : Int), R93_0 B N m (Sl93a p0 lx1 out6_a last7_a t12_a) = l93a B N p0 lx1 m out6_a last7_a t12_a
        | 0, _, _, _ => rfl
        | m + 1, out6_a, last7_a, t12_a => by rw [wl93a]; simp only [l93a, ql93a B N p0 lx1 m]
def m93 (B : Wm0T0) (N : Nat) (p0 : Int × LL × Unit) (lx1 : List Int) : Option (Int × Int) :=
   (l93a B N p0 lx1 N (0 : Int) (-1 : Int) (0 : Int))
theorem wm93 (B : Wm0T0) (N : Nat) (p0 : Int × LL × Unit) (lx1 : List Int) : callF (E93 B) lv93 N en93 c93 (resOf Try.f93) 32 [.dv w0Z2 p0, .dv w0Z0 lx1] [] dec93 = (R93_0 B N N (Sl93a p0 lx1 (0 : Int) (-1 : Int) (0 : Int))) := by kernel_rfl
theorem k93 (B : Wm0T0) (N : Nat) (p0 : Int × LL × Unit) (lx1 : List Int) : callF (E93 B) lv93 N en93 c93 (resOf Try.f93) 32 [.dv w0Z2 p0, .dv w0Z0 lx1] [] dec93 = m93 B N p0 lx1 := by rw [wm93]; simp only [m93, ql93a]
theorem ok93 (B : Wm0T0) (h99 : FnOk Try.prog 99 (F99 B)) (a : (Int × LL × Unit) → (List Int) → Option (Int × Int)) (h : ∀ p0 lx1 r, a p0 lx1 = some r → (∃ N, m93 B N p0 lx1 = some r)) : FnOk Try.prog 93 (F93 a) := by
 intro args Of x hx
 simp only [F93] at hx
 split at hx
 ·rename_i p0 lx1
  obtain ⟨N, hN⟩ := h _ _ _ hx
  refine lifted (L := [(99, F99 B)]) (rc := nrc) (fz := nfz) (fn := Try.f93) (by kernel_rfl) (by kernel_rfl) (by kernel_rfl) (by kernel_rfl) rfl ?_ ((k93 B N _ _).trans hN) ?_
  ·intro p hp; simp only [List.mem_cons, List.not_mem_nil, or_false] at hp; rcases hp with rfl; exact h99
  ·intro l o hd
   simp only [dec93] at hd
   split at hd
   ·obtain rfl := oij hd; exact ⟨rfl, rfl⟩
   ·cases hd
 ·cases hx
def E105 : Env := mkE TI TY [] nrc nfz
noncomputable def c105 : Code := bodyOf Try.f105
def lv105 : Nat → Option Norm := norms []
def en105 : End := ⟨[], ⟨[6], [], [], []⟩⟩
def dec105 (l : List TV) (o : List (Nat × TO)) : Option (Int) := match l, o with | [.dv (.int .i64) x0], [] => some (x0) | _, _ => none
def m105 (N : Nat) (o0 : Int) (t1 : Int) : Option (Int) :=
   some o0
theorem k105 (N : Nat) (o0 : Int) (t1 : Int) : callF (E105) lv105 N en105 c105 (resOf Try.f105) 4 [.dv (.int .i64) o0, .dv (.int .i64) t1] [] dec105 = m105 N o0 t1 := by kernel_rfl
theorem ok105 (a : Int → Int → Option (Int)) (h : ∀ o0 t1 r, a o0 t1 = some r → (∃ N, m105 N o0 t1 = some r)) : FnOk Try.prog 105 (F105 a) := by
 intro args Of x hx
 simp only [F105] at hx
 split at hx
 ·rename_i o0 t1
  obtain ⟨N, hN⟩ := h _ _ _ hx
  refine lifted (L := []) (rc := nrc) (fz := nfz) (fn := Try.f105) (by kernel_rfl) (by kernel_rfl) (by kernel_rfl) (by kernel_rfl) rfl ?_ ((k105 N _ _).trans hN) ?_
  ·intro p hp; cases hp
  ·intro l o hd
   simp only [dec105] at hd
   split at hd
   ·obtain rfl := oij hd; exact ⟨rfl, rfl⟩
   ·cases hd
 ·cases hx
def E108 : Env := mkE TI TY [] nrc nfz
noncomputable def c108 : Code := bodyOf Try.f108
def lv108 : Nat → Option Norm := norms []
def en108 : End := ⟨[], ⟨[10], [], [], []⟩⟩
def dec108 (l : List TV) (o : List (Nat × TO)) : Option (Bool) := match l, o with | [.dv (.bool) x0], [] => some (x0) | _, _ => none
def m108 (N : Nat) (s0 : Int) (colour1 : Int) : Option (Bool) :=
   chk (decide (0 ≤ colour1)) (some ((bAnd .u8 (Int.fdiv s0 (2 ^ min (Int.toNat colour1) 8)) (1 : Int)) == (1 : Int)))
theorem k108 (N : Nat) (s0 : Int) (colour1 : Int) : callF (E108) lv108 N en108 c108 (resOf Try.f108) 8 [.dv (.int .u8) s0, .dv (.int .i64) colour1] [] dec108 = m108 N s0 colour1 := by kernel_rfl
theorem ok108 (a : Int → Int → Option (Bool)) (h : ∀ s0 colour1 r, a s0 colour1 = some r → (∃ N, m108 N s0 colour1 = some r)) : FnOk Try.prog 108 (F108 a) := by
 intro args Of x hx
 simp only [F108] at hx
 split at hx
 ·rename_i s0 colour1
  obtain ⟨N, hN⟩ := h _ _ _ hx
  refine lifted (L := []) (rc := nrc) (fz := nfz) (fn := Try.f108) (by kernel_rfl) (by kernel_rfl) (by kernel_rfl) (by kernel_rfl) rfl ?_ ((k108 N _ _).trans hN) ?_
  ·intro p hp; cases hp
  ·intro l o hd
   simp only [dec108] at hd
   split at hd
   ·obtain rfl := oij hd; exact ⟨rfl, rfl⟩
   ·cases hd
 ·cases hx
def E106 (P : Wm0T20) : Env := mkE TI TY [(108, F108 P)] nrc nfz
noncomputable def c106 : Code := bodyOf Try.f106
def nm106_0 : Norm := ⟨[4, 8], [], [(.slot 3, 1003, .int .i64)], []⟩
def lv106 : Nat → Option Norm := norms [(4, nm106_0)]
def en106 : End := ⟨[(20, .sl (.int .i64))], ⟨[20], [], [], []⟩⟩
def dec106 (l : List TV) (o : List (Nat × TO)) : Option (List Int) := match l, o with | [.dv (.sl (.int .i64)) x0], [] => some (x0) | _, _ => none
def Sl106a (s0 : Int) (t8_a : Int) (out3_a : List Int) : TS := ⟨slots 20 [(3, .row 1003), (4, .fn 108 1 0 fun i => ([.dv (.int .u8) s0] : List TV).getD i .any), (8, .dv (.int .i64) t8_a)], [(1003, .row (.int .i64) out3_a)]⟩
noncomputable def K106_0 (P : Wm0T20) (N : Nat) : Kont (List Int) := kont (E106 P) lv106 N c106 [1, 1, 1, 0, 1, 0] (fin TI en106 (resOf Try.f106) dec106)
noncomputable def R106_0 (P : Wm0T20) (N : Nat) (m : Nat) : TS → Option (List Int) := loopK (den (E106 P) lv106 N (sub c106 [1, 1, 1, 0, 1, 0, 0])) (TS.norm nm106_0) (K106_0 P N) m
def l106a (P : Wm0T20) (N : Nat) (s0 : Int) : Nat → Int → (List Int) → Option (List Int)
 | 0, _, _ => none
 | n + 1, t8_a, out3_a => cond (decide (t8_a < (7 : Int))) ((P s0 t8_a).bind fun r1 =>
   cond (r1) (chk (small (out3_a.length + 1) 8) ((l106a P N s0 n (w64 (t8_a + 1)) (out3_a ++ ([t8_a] : List Int)))))
   ((l106a P N s0 n (w64 (t8_a + 1)) out3_a)))
   (some out3_a)
theorem wl106a (P : Wm0T20) (N : Nat) (s0 : Int) (m : Nat) (t8_a : Int) (out3_a : List Int) : R106_0 P N (m + 1) (Sl106a s0 t8_a out3_a) = cond (decide (t8_a < (7 : Int))) ((P s0 t8_a).bind fun r1 =>
   cond (r1) (chk (small (out3_a.length + 1) 8) ((R106_0 P N m (Sl106a s0 (w64 (t8_a + 1)) (out3_a ++ ([t8_a] : List Int))))))
   ((R106_0 P N m (Sl106a s0 (w64 (t8_a + 1)) out3_a))))
   (some out3_a) := by kernel_rfl
theorem ql106a (P : Wm0T20) (N : Nat) (s0 : Int) : ∀ (m : Nat) (t8_a : Int) (out3_a : List Int), R106_0 P N m (Sl106a s0 t8_a out3_a) = l106a P N s0 m t8_a out3_a
        | 0, _, _ => rfl
        | m + 1, t8_a, out3_a => by rw [wl106a]; simp only [l106a, ql106a P N s0 m]
def m106 (P : Wm0T20) (N : Nat) (s0 : Int) : Option (List Int) :=
   (l106a P N s0 N (0 : Int) ([] : List Int))
theorem wm106 (P : Wm0T20) (N : Nat) (s0 : Int) : callF (E106 P) lv106 N en106 c106 (resOf Try.f106) 19 [.dv (.int .u8) s0] [] dec106 = (R106_0 P N N (Sl106a s0 (0 : Int) ([] : List Int))) := by kernel_rfl
theorem k106 (P : Wm0T20) (N : Nat) (s0 : Int) : callF (E106 P) lv106 N en106 c106 (resOf Try.f106) 19 [.dv (.int .u8) s0] [] dec106 = m106 P N s0 := by rw [wm106]; simp only [m106, ql106a]
theorem ok106 (P : Wm0T20) (h108 : FnOk Try.prog 108 (F108 P)) (a : Int → Option (List Int)) (h : ∀ s0 r, a s0 = some r → (∃ N, m106 P N s0 = some r)) : FnOk Try.prog 106 (F106 a) := by
 intro args Of x hx
 simp only [F106] at hx
 split at hx
 ·rename_i s0
  obtain ⟨N, hN⟩ := h _ _ hx
  refine lifted (L := [(108, F108 P)]) (rc := nrc) (fz := nfz) (fn := Try.f106) (by kernel_rfl) (by kernel_rfl) (by kernel_rfl) (by kernel_rfl) rfl ?_ ((k106 P N _).trans hN) ?_
  ·intro p hp; simp only [List.mem_cons, List.not_mem_nil, or_false] at hp; rcases hp with rfl; exact h108
  ·intro l o hd
   simp only [dec106] at hd
   split at hd
   ·obtain rfl := oij hd; exact ⟨rfl, rfl⟩
   ·cases hd
 ·cases hx
def E124 : Env := mkE TI TY [] nrc nfz
noncomputable def c124 : Code := bodyOf Try.f124
def lv124 : Nat → Option Norm := norms []
def en124 : End := ⟨[], ⟨[9], [], [], []⟩⟩
def dec124 (l : List TV) (o : List (Nat × TO)) : Option (Int) := match l, o with | [.dv (.int .i64) x0], [] => some (x0) | _, _ => none
def m124 (N : Nat) (cx0 : List Int) (colour1 : Int) : Option (Int) :=
   chk (decide (0 ≤ colour1 ∧ colour1 < (cx0.length : Int))) (some (cx0.getD colour1.toNat 0))
theorem k124 (N : Nat) (cx0 : List Int) (colour1 : Int) : callF (E124) lv124 N en124 c124 (resOf Try.f124) 7 [.dv w0Z0 cx0, .dv (.int .i64) colour1] [] dec124 = m124 N cx0 colour1 := by kernel_rfl
theorem ok124 (a : (List Int) → Int → Option (Int)) (h : ∀ cx0 colour1 r, a cx0 colour1 = some r → (∃ N, m124 N cx0 colour1 = some r)) : FnOk Try.prog 124 (F124 a) := by
 intro args Of x hx
 simp only [F124] at hx
 split at hx
 ·rename_i cx0 colour1
  obtain ⟨N, hN⟩ := h _ _ _ hx
  refine lifted (L := []) (rc := nrc) (fz := nfz) (fn := Try.f124) (by kernel_rfl) (by kernel_rfl) (by kernel_rfl) (by kernel_rfl) rfl ?_ ((k124 N _ _).trans hN) ?_
  ·intro p hp; cases hp
  ·intro l o hd
   simp only [dec124] at hd
   split at hd
   ·obtain rfl := oij hd; exact ⟨rfl, rfl⟩
   ·cases hd
 ·cases hx
def E101 (M : Wm0T15) (Q : Wm0T6) (U : Wm0T14) : Env := mkE TI TY [(105, F105 M), (106, F106 Q), (124, F124 U)] nrc nfz
noncomputable def c101 : Code := bodyOf Try.f101
def nm101_0 : Norm := ⟨[6, 7, 13, 14, 15], [], [], []⟩
def lv101 : Nat → Option Norm := norms [(5, nm101_0)]
def en101 : End := ⟨[], ⟨[35], [], [], []⟩⟩
def dec101 (l : List TV) (o : List (Nat × TO)) : Option (Int) := match l, o with | [.dv (.int .u8) x0], [] => some (x0) | _, _ => none
def Sl101a (kx1 : Int ⊕ ((List Int) ⊕ Unit)) (r2 : List Int) (out7_a : Int) (t15_a : Int) : TS := ⟨slots 35 [(6, .dv (.ifc 151 (.int .i64) (.ifc 153 w0Z0 (.ifn))) kx1), (7, .dv (.int .u8) out7_a), (13, .dv w0Z0 r2), (14, .dv (.int .i64) (r2.length : Int)), (15, .dv (.int .i64) t15_a)], []⟩
noncomputable def K101_0 (M : Wm0T15) (Q : Wm0T6) (U : Wm0T14) (N : Nat) : Kont (Int) := kont (E101 M Q U) lv101 N c101 [1, 1, 0, 1, 1, 1, 1, 0, 1, 0] (fin TI en101 (resOf Try.f101) dec101)
noncomputable def R101_0 (M : Wm0T15) (Q : Wm0T6) (U : Wm0T14) (N : Nat) (m : Nat) : TS → Option (Int) := loopK (den (E101 M Q U) lv101 N (sub c101 [1, 1, 0, 1, 1, 1, 1, 0, 1, 0, 0])) (TS.norm nm101_0) (K101_0 M Q U N) m
def l101a (M : Wm0T15) (Q : Wm0T6) (U : Wm0T14) (N : Nat) (kx1 : Int ⊕ ((List Int) ⊕ Unit)) (r2 : List Int) : Nat → Int → Int → Option (Int)
 | 0, _, _ => none
 | n + 1, out7_a, t15_a => cond (decide (t15_a < (r2.length : Int))) (chk (decide (0 ≤ t15_a ∧ t15_a < (r2.length : Int))) (ifElim kx1 (fun h3 =>
   (M h3 (r2.getD t15_a.toNat 0)).bind fun r5 =>
   chk (decide (0 ≤ r5)) ((l101a M Q U N kx1 r2 n (bOr .u8 out7_a (IntKind.wrap .u8 ((1 : Int) * 2 ^ min (Int.toNat r5) 8))) (w64 (t15_a + 1))))) (fun g4 =>
   ifElim g4 (fun h6 =>
   (U h6 (r2.getD t15_a.toNat 0)).bind fun r8 =>
   chk (decide (0 ≤ r8)) ((l101a M Q U N kx1 r2 n (bOr .u8 out7_a (IntKind.wrap .u8 ((1 : Int) * 2 ^ min (Int.toNat r8) 8))) (w64 (t15_a + 1))))) (fun g7 =>
   none))))
   (some out7_a)
theorem wl101a (M : Wm0T15) (Q : Wm0T6) (U : Wm0T14) (N : Nat) (kx1 : Int ⊕ ((List Int) ⊕ Unit)) (r2 : List Int) (m : Nat) (out7_a : Int) (t15_a : Int) : R101_0 M Q U N (m + 1) (Sl101a kx1 r2 out7_a t15_a) = cond (decide (t15_a < (r2.length : Int))) (chk (decide (0 ≤ t15_a ∧ t15_a < (r2.length : Int))) (ifElim kx1 (fun h3 =>
   (M h3 (r2.getD t15_a.toNat 0)).bind fun r5 =>
   chk (decide (0 ≤ r5)) ((R101_0 M Q U N m (Sl101a kx1 r2 (bOr .u8 out7_a (IntKind.wrap .u8 ((1 : Int) * 2 ^ min (Int.toNat r5) 8))) (w64 (t15_a + 1)))))) (fun g4 =>
   ifElim g4 (fun h6 =>
   (U h6 (r2.getD t15_a.toNat 0)).bind fun r8 =>
   chk (decide (0 ≤ r8)) ((R101_0 M Q U N m (Sl101a kx1 r2 (bOr .u8 out7_a (IntKind.wrap .u8 ((1 : Int) * 2 ^ min (Int.toNat r8) 8))) (w64 (t15_a + 1)))))) (fun g7 =>
   none))))
   (some out7_a) := by kernel_rfl
theorem ql101a (M : Wm0T15) (Q : Wm0T6) (U : Wm0T14) (N : Nat) (kx1 : Int ⊕ ((List Int) ⊕ Unit)) (r2 : List Int) : ∀ (m : Nat) (out7_a : Int) (t15_a : Int), R101_0 M Q U N m (Sl101a kx1 r2 out7_a t15_a) = l101a M Q U N kx1 r2 m out7_a t15_a
        | 0, _, _ => rfl
        | m + 1, out7_a, t15_a => by rw [wl101a]; simp only [l101a, ql101a M Q U N kx1 r2 m]
def m101 (M : Wm0T15) (Q : Wm0T6) (U : Wm0T14) (N : Nat) (s0 : Int) (kx1 : Int ⊕ ((List Int) ⊕ Unit)) : Option (Int) :=
   cond ((inL kx1).isSome) ((M ((inL kx1).getD (0 : Int)) (0 : Int)).bind fun r1 =>
   chk (decide (0 ≤ r1)) (some (bOr .u8 s0 (IntKind.wrap .u8 ((1 : Int) * 2 ^ min (Int.toNat r1) 8)))))
   ((Q s0).bind fun r2 =>
   (l101a M Q U N kx1 r2 N s0 (0 : Int)))
theorem wm101 (M : Wm0T15) (Q : Wm0T6) (U : Wm0T14) (N : Nat) (s0 : Int) (kx1 : Int ⊕ ((List Int) ⊕ Unit)) : callF (E101 M Q U) lv101 N en101 c101 (resOf Try.f101) 33 [.dv (.int .u8) s0, .dv (.ifc 151 (.int .i64) (.ifc 153 w0Z0 (.ifn))) kx1] [] dec101 = cond ((inL kx1).isSome) ((M ((inL kx1).getD (0 : Int)) (0 : Int)).bind fun r1 =>
   chk (decide (0 ≤ r1)) (some (bOr .u8 s0 (IntKind.wrap .u8 ((1 : Int) * 2 ^ min (Int.toNat r1) 8)))))
   ((Q s0).bind fun r2 =>
   (R101_0 M Q U N N (Sl101a kx1 r2 s0 (0 : Int)))) := by kernel_rfl
theorem k101 (M : Wm0T15) (Q : Wm0T6) (U : Wm0T14) (N : Nat) (s0 : Int) (kx1 : Int ⊕ ((List Int) ⊕ Unit)) : callF (E101 M Q U) lv101 N en101 c101 (resOf Try.f101) 33 [.dv (.int .u8) s0, .dv (.ifc 151 (.int .i64) (.ifc 153 w0Z0 (.ifn))) kx1] [] dec101 = m101 M Q U N s0 kx1 := by rw [wm101]; simp only [m101, ql101a]
theorem ok101 (M : Wm0T15) (Q : Wm0T6) (U : Wm0T14) (h105 : FnOk Try.prog 105 (F105 M)) (h106 : FnOk Try.prog 106 (F106 Q)) (h124 : FnOk Try.prog 124 (F124 U)) (a : Int → (Int ⊕ ((List Int) ⊕ Unit)) → Option (Int)) (h : ∀ s0 kx1 r, a s0 kx1 = some r → (∃ N, m101 M Q U N s0 kx1 = some r)) : FnOk Try.prog 101 (F101 a) := by
 intro args Of x hx
 simp only [F101] at hx
 split at hx
 ·rename_i s0 kx1
  obtain ⟨N, hN⟩ := h _ _ _ hx
  refine lifted (L := [(105, F105 M), (106, F106 Q), (124, F124 U)]) (rc := nrc) (fz := nfz) (fn := Try.f101) (by kernel_rfl) (by kernel_rfl) (by kernel_rfl) (by kernel_rfl) rfl ?_ ((k101 M Q U N _ _).trans hN) ?_
  ·intro p hp; simp only [List.mem_cons, List.not_mem_nil, or_false] at hp; rcases hp with rfl | rfl | rfl
   ·exact h105
   ·exact h106
   ·exact h124
  ·intro l o hd
   simp only [dec101] at hd
   split at hd
   ·obtain rfl := oij hd; exact ⟨rfl, rfl⟩
   ·cases hd
 ·cases hx
def E107 : Env := mkE TI TY [] nrc nfz
noncomputable def c107 : Code := bodyOf Try.f107
def nm107_0 : Norm := ⟨[0, 3, 4], [], [], []⟩
def lv107 : Nat → Option Norm := norms [(5, nm107_0)]
def en107 : End := ⟨[], ⟨[25], [], [], []⟩⟩
def dec107 (l : List TV) (o : List (Nat × TO)) : Option (Int) := match l, o with | [.dv (.int .i64) x0], [] => some (x0) | _, _ => none
def Sl107a (x0 : List Int) (m3_a : Int) (i4_a : Int) : TS := ⟨slots 25 [(0, .dv w0Z0 x0), (3, .dv (.int .i64) m3_a), (4, .dv (.int .i64) i4_a)], []⟩
noncomputable def K107_0 (N : Nat) : Kont (Int) := kont (E107) lv107 N c107 [1, 1, 1, 0, 1, 0] (fin TI en107 (resOf Try.f107) dec107)
noncomputable def R107_0 (N : Nat) (m : Nat) : TS → Option (Int) := loopK (den (E107) lv107 N (sub c107 [1, 1, 1, 0, 1, 0, 0])) (TS.norm nm107_0) (K107_0 N) m
def l107a (N : Nat) (x0 : List Int) : Nat → Int → Int → Option (Int)
 | 0, _, _ => none
 | n + 1, m3_a, i4_a => cond (decide (i4_a < (x0.length : Int))) (chk (decide (0 ≤ i4_a ∧ i4_a < (x0.length : Int))) ((l107a N x0 n (imin m3_a (x0.getD i4_a.toNat 0)) (w64 (i4_a + 1)))))
   (some m3_a)
theorem wl107a (N : Nat) (x0 : List Int) (m : Nat) (m3_a : Int) (i4_a : Int) : R107_0 N (m + 1) (Sl107a x0 m3_a i4_a) = cond (decide (i4_a < (x0.length : Int))) (chk (decide (0 ≤ i4_a ∧ i4_a < (x0.length : Int))) ((R107_0 N m (Sl107a x0 (imin m3_a (x0.getD i4_a.toNat 0)) (w64 (i4_a + 1))))))
   (some m3_a) := by kernel_rfl
theorem ql107a (N : Nat) (x0 : List Int) : ∀ (m : Nat) (m3_a : Int) (i4_a : Int), R107_0 N m (Sl107a x0 m3_a i4_a) = l107a N x0 m m3_a i4_a
        | 0, _, _ => rfl
        | m + 1, m3_a, i4_a => by rw [wl107a]; simp only [l107a, ql107a N x0 m]
def m107 (N : Nat) (x0 : List Int) : Option (Int) :=
   cond (decide ((x0.length : Int) < (1 : Int))) (none)
   (chk (decide (0 ≤ (0 : Int) ∧ (0 : Int) < (x0.length : Int))) ((l107a N x0 N (x0.getD 0 (0 : Int)) (1 : Int))))
theorem wm107 (N : Nat) (x0 : List Int) : callF (E107) lv107 N en107 c107 (resOf Try.f107) 24 [.dv w0Z0 x0] [] dec107 = cond (decide ((x0.length : Int) < (1 : Int))) (none)
   (chk (decide (0 ≤ (0 : Int) ∧ (0 : Int) < (x0.length : Int))) ((R107_0 N N (Sl107a x0 (x0.getD 0 (0 : Int)) (1 : Int))))) := by kernel_rfl
theorem k107 (N : Nat) (x0 : List Int) : callF (E107) lv107 N en107 c107 (resOf Try.f107) 24 [.dv w0Z0 x0] [] dec107 = m107 N x0 := by rw [wm107]; simp only [m107, ql107a]
theorem ok107 (a : (List Int) → Option (Int)) (h : ∀ x0 r, a x0 = some r → (∃ N, m107 N x0 = some r)) : FnOk Try.prog 107 (F107 a) := by
 intro args Of x hx
 simp only [F107] at hx
 split at hx
 ·rename_i x0
  obtain ⟨N, hN⟩ := h _ _ hx
  refine lifted (L := []) (rc := nrc) (fz := nfz) (fn := Try.f107) (by kernel_rfl) (by kernel_rfl) (by kernel_rfl) (by kernel_rfl) rfl ?_ ((k107 N _).trans hN) ?_
  ·intro p hp; cases hp
  ·intro l o hd
   simp only [dec107] at hd
   split at hd
   ·obtain rfl := oij hd; exact ⟨rfl, rfl⟩
   ·cases hd
 ·cases hx
def E97 : Env := mkE TI TY [] nrc nfz
noncomputable def c97 : Code := bodyOf Try.f97
def nm97_0 : Norm := ⟨[0, 3, 4], [], [], []⟩
def lv97 : Nat → Option Norm := norms [(5, nm97_0)]
def en97 : End := ⟨[], ⟨[25], [], [], []⟩⟩
def dec97 (l : List TV) (o : List (Nat × TO)) : Option (Int) := match l, o with | [.dv (.int .i64) x0], [] => some (x0) | _, _ => none
def Sl97a (x0 : List Int) (m3_a : Int) (i4_a : Int) : TS := ⟨slots 25 [(0, .dv w0Z0 x0), (3, .dv (.int .i64) m3_a), (4, .dv (.int .i64) i4_a)], []⟩
noncomputable def K97_0 (N : Nat) : Kont (Int) := kont (E97) lv97 N c97 [1, 1, 1, 0, 1, 0] (fin TI en97 (resOf Try.f97) dec97)
noncomputable def R97_0 (N : Nat) (m : Nat) : TS → Option (Int) := loopK (den (E97) lv97 N (sub c97 [1, 1, 1, 0, 1, 0, 0])) (TS.norm nm97_0) (K97_0 N) m
def l97a (N : Nat) (x0 : List Int) : Nat → Int → Int → Option (Int)
 | 0, _, _ => none
 | n + 1, m3_a, i4_a => cond (decide (i4_a < (x0.length : Int))) (chk (decide (0 ≤ i4_a ∧ i4_a < (x0.length : Int))) ((l97a N x0 n (imax m3_a (x0.getD i4_a.toNat 0)) (w64 (i4_a + 1)))))
   (some m3_a)
theorem wl97a (N : Nat) (x0 : List Int) (m : Nat) (m3_a : Int) (i4_a : Int) : R97_0 N (m + 1) (Sl97a x0 m3_a i4_a) = cond (decide (i4_a < (x0.length : Int))) (chk (decide (0 ≤ i4_a ∧ i4_a < (x0.length : Int))) ((R97_0 N m (Sl97a x0 (imax m3_a (x0.getD i4_a.toNat 0)) (w64 (i4_a + 1))))))
   (some m3_a) := by kernel_rfl
theorem ql97a (N : Nat) (x0 : List Int) : ∀ (m : Nat) (m3_a : Int) (i4_a : Int), R97_0 N m (Sl97a x0 m3_a i4_a) = l97a N x0 m m3_a i4_a
        | 0, _, _ => rfl
        | m + 1, m3_a, i4_a => by rw [wl97a]; simp only [l97a, ql97a N x0 m]
def m97 (N : Nat) (x0 : List Int) : Option (Int) :=
   cond (decide ((x0.length : Int) < (1 : Int))) (none)
   (chk (decide (0 ≤ (0 : Int) ∧ (0 : Int) < (x0.length : Int))) ((l97a N x0 N (x0.getD 0 (0 : Int)) (1 : Int))))
theorem wm97 (N : Nat) (x0 : List Int) : callF (E97) lv97 N en97 c97 (resOf Try.f97) 24 [.dv w0Z0 x0] [] dec97 = cond (decide ((x0.length : Int) < (1 : Int))) (none)
   (chk (decide (0 ≤ (0 : Int) ∧ (0 : Int) < (x0.length : Int))) ((R97_0 N N (Sl97a x0 (x0.getD 0 (0 : Int)) (1 : Int))))) := by kernel_rfl
theorem k97 (N : Nat) (x0 : List Int) : callF (E97) lv97 N en97 c97 (resOf Try.f97) 24 [.dv w0Z0 x0] [] dec97 = m97 N x0 := by rw [wm97]; simp only [m97, ql97a]
theorem ok97 (a : (List Int) → Option (Int)) (h : ∀ x0 r, a x0 = some r → (∃ N, m97 N x0 = some r)) : FnOk Try.prog 97 (F97 a) := by
 intro args Of x hx
 simp only [F97] at hx
 split at hx
 ·rename_i x0
  obtain ⟨N, hN⟩ := h _ _ hx
  refine lifted (L := []) (rc := nrc) (fz := nfz) (fn := Try.f97) (by kernel_rfl) (by kernel_rfl) (by kernel_rfl) (by kernel_rfl) rfl ?_ ((k97 N _).trans hN) ?_
  ·intro p hp; cases hp
  ·intro l o hd
   simp only [dec97] at hd
   split at hd
   ·obtain rfl := oij hd; exact ⟨rfl, rfl⟩
   ·cases hd
 ·cases hx
def E102 (a107 : Wm0T21) (a97 : Wm0T21) : Env := mkE TI TY [(107, F107 a107), (97, F97 a97)] nrc nfz
noncomputable def c102 : Code := bodyOf Try.f102
def lv102 : Nat → Option Norm := norms []
def en102 : End := ⟨[(22, .ifc 151 (.int .i64) (.ifc 153 (.sl (.int .i64)) (.ifn)))], ⟨[22], [], [], []⟩⟩
def dec102 (l : List TV) (o : List (Nat × TO)) : Option (Int ⊕ ((List Int) ⊕ Unit)) := match l, o with | [.dv (.ifc 151 (.int .i64) (.ifc 153 (.sl (.int .i64)) (.ifn))) x0], [] => some (x0) | _, _ => none
def m102 (a107 : Wm0T21) (a97 : Wm0T21) (N : Nat) (p0 : Int × LL × Unit) (i1 : Int) : Option (Int ⊕ ((List Int) ⊕ Unit)) :=
   chk (decide (0 ≤ i1 ∧ i1 < (p0.2.1.length : Int))) ((a97 (p0.2.1.getD i1.toNat ([] : List Int))).bind fun r1 =>
   (a107 (p0.2.1.getD i1.toNat ([] : List Int))).bind fun r2 =>
   cond (r1 == r2) (chk (decide (0 ≤ (0 : Int) ∧ (0 : Int) < ((p0.2.1.getD i1.toNat ([] : List Int)).length : Int))) (some (Sum.inl ((p0.2.1.getD i1.toNat ([] : List Int)).getD 0 (0 : Int)))))
   (some (Sum.inr (Sum.inl (p0.2.1.getD i1.toNat ([] : List Int))))))
theorem k102 (a107 : Wm0T21) (a97 : Wm0T21) (N : Nat) (p0 : Int × LL × Unit) (i1 : Int) : callF (E102 a107 a97) lv102 N en102 c102 (resOf Try.f102) 20 [.dv w0Z2 p0, .dv (.int .i64) i1] [] dec102 = m102 a107 a97 N p0 i1 := by kernel_rfl
theorem ok102 (a107 : Wm0T21) (a97 : Wm0T21) (h107 : FnOk Try.prog 107 (F107 a107)) (h97 : FnOk Try.prog 97 (F97 a97)) (a : (Int × LL × Unit) → Int → Option (Int ⊕ ((List Int) ⊕ Unit))) (h : ∀ p0 i1 r, a p0 i1 = some r → (∃ N, m102 a107 a97 N p0 i1 = some r)) : FnOk Try.prog 102 (F102 a) := by
 intro args Of x hx
 simp only [F102] at hx
 split at hx
 ·rename_i p0 i1
  obtain ⟨N, hN⟩ := h _ _ _ hx
  refine lifted (L := [(107, F107 a107), (97, F97 a97)]) (rc := nrc) (fz := nfz) (fn := Try.f102) (by kernel_rfl) (by kernel_rfl) (by kernel_rfl) (by kernel_rfl) rfl ?_ ((k102 a107 a97 N _ _).trans hN) ?_
  ·intro p hp; simp only [List.mem_cons, List.not_mem_nil, or_false] at hp; rcases hp with rfl | rfl
   ·exact h107
   ·exact h97
  ·intro l o hd
   simp only [dec102] at hd
   split at hd
   ·obtain rfl := oij hd; exact ⟨rfl, rfl⟩
   ·cases hd
 ·cases hx
def E43 : Env := mkE TI TY [] nrc nfz
noncomputable def c43 : Code := bodyOf Try.f43
def lv43 : Nat → Option Norm := norms []
def en43 : End := ⟨[(9, .csl (.int .i64))], ⟨[9], [], [], []⟩⟩
def dec43 (l : List TV) (o : List (Nat × TO)) : Option (List Int) := match l, o with | [.dv (.csl (.int .i64)) x0], [] => some (x0) | _, _ => none
def m43 (N : Nat) (s0 : List Int) : Option (List Int) :=
   chk (decide (0 ≤ (s0.length : Int) ∧ (s0.length : Int) ≤ (s0.length : Int)) && decide ((s0.length : Int) = (s0.length : Int))) (some (s0.take ((s0.length : Int).toNat)))
theorem k43 (N : Nat) (s0 : List Int) : callF (E43) lv43 N en43 c43 (resOf Try.f43) 8 [.dv w0Z0 s0] [] dec43 = m43 N s0 := by kernel_rfl
theorem ok43 (a : (List Int) → Option (List Int)) (h : ∀ s0 r, a s0 = some r → (∃ N, m43 N s0 = some r)) : FnOk Try.prog 43 (F43 a) := by
 intro args Of x hx
 simp only [F43] at hx
 split at hx
 ·rename_i s0
  obtain ⟨N, hN⟩ := h _ _ hx
  refine lifted (L := []) (rc := nrc) (fz := nfz) (fn := Try.f43) (by kernel_rfl) (by kernel_rfl) (by kernel_rfl) (by kernel_rfl) rfl ?_ ((k43 N _).trans hN) ?_
  ·intro p hp; cases hp
  ·intro l o hd
   simp only [dec43] at hd
   split at hd
   ·obtain rfl := oij hd; exact ⟨rfl, rfl⟩
   ·cases hd
 ·cases hx
def E94 (C : Wm0T22) (D : Wm0T23) (G : Wm0T24) : Env := mkE TI TY [(101, F101 C), (102, F102 D), (43, F43 G)] nrc (fun i => ([27, 29] : List Nat).contains i)
noncomputable def c94 : Code := bodyOf Try.f94
def nm94_0 : Norm := ⟨[1, 2, 6], [2, 13], [(.slot 7, 1007, .int .u8), (.slot 8, 1008, .sl (.int .i64))], []⟩
def nm94_1 : Norm := ⟨[1, 2, 6, 9, 10, 38, 39], [2, 13], [(.slot 7, 1007, .int .u8), (.slot 8, 1008, .sl (.int .i64))], []⟩
def lv94 : Nat → Option Norm := norms [(4, nm94_0), (10, nm94_1)]
def en94 : End := ⟨[(66, .sl (.int .i64))], ⟨[66, 67], [], [], []⟩⟩
def dec94 (l : List TV) (o : List (Nat × TO)) : Option (List Int × Bool) := match l, o with | [.dv (.sl (.int .i64)) x0, .dv (.bool) x1], [] => some (x0, x1) | _, _ => none
def Sl94b (p0 : Int × LL × Unit) (want1 : Int) (open7_a : List Int) (sequences8_a : LL) (t39_b : Int) (open7_b : List Int) (sequences8_b : LL) (o13_b : List (Int × Bool)) : TS := ⟨slots 66 [(1, .dv (.int .u8) want1), (2, .ptr 2 0 []), (6, .row 13), (7, .row 1007), (8, .row 1008), (9, .dv (.int .u8) (open7_a.getD 0 (0 : Int))), (10, .dv w0Z0 (sequences8_a.getD 0 ([] : List Int))), (38, .dv (.int .i64) (p0.2.1.length : Int)), (39, .dv (.int .i64) t39_b)], [(1007, .row (.int .u8) open7_b), (1008, .row w0Z0 sequences8_b), (2, .row w0Z2 ([p0] : List (Int × LL × Unit))), (13, .map (.int .u8) (.bool) o13_b)]⟩
def Sl94a (p0 : Int × LL × Unit) (want1 : Int) (open7_a : List Int) (sequences8_a : LL) (o13_a : List (Int × Bool)) : TS := ⟨slots 66 [(1, .dv (.int .u8) want1), (2, .ptr 2 0 []), (6, .row 13), (7, .row 1007), (8, .row 1008)], [(1007, .row (.int .u8) open7_a), (1008, .row w0Z0 sequences8_a), (2, .row w0Z2 ([p0] : List (Int × LL × Unit))), (13, .map (.int .u8) (.bool) o13_a)]⟩
noncomputable def K94_0 (C : Wm0T22) (D : Wm0T23) (G : Wm0T24) (N : Nat) : Kont (List Int × Bool) := kont (E94 C D G) lv94 N c94 [1, 1, 1, 1, 0, 0] (fin TI en94 (resOf Try.f94) dec94)
noncomputable def R94_0 (C : Wm0T22) (D : Wm0T23) (G : Wm0T24) (N : Nat) (m : Nat) : TS → Option (List Int × Bool) := loopK (den (E94 C D G) lv94 N (sub c94 [1, 1, 1, 1, 0, 0, 0])) (TS.norm nm94_0) (K94_0 C D G N) m
noncomputable def K94_1 (C : Wm0T22) (D : Wm0T23) (G : Wm0T24) (N : Nat) (T94_0 : TS → Option (List Int × Bool)) : Kont (List Int × Bool) := kont (E94 C D G) lv94 N (sub c94 [1, 1, 1, 1, 0, 0, 0]) [1, 0, 1, 1, 1, 1, 0] (kloop (TS.norm nm94_0) (K94_0 C D G N) T94_0)
noncomputable def R94_1 (C : Wm0T22) (D : Wm0T23) (G : Wm0T24) (N : Nat) (T94_0 : TS → Option (List Int × Bool)) (m : Nat) : TS → Option (List Int × Bool) := loopK (den (E94 C D G) lv94 N (sub c94 [1, 1, 1, 1, 0, 0, 0, 1, 0, 1, 1, 1, 1, 0, 0])) (TS.norm nm94_1) (K94_1 C D G N T94_0) m
def l94b (C : Wm0T22) (D : Wm0T23) (G : Wm0T24) (N : Nat) (p0 : Int × LL × Unit) (want1 : Int) (open7_a : List Int) (sequences8_a : LL) (l94a' : (List Int) → LL → (List (Int × Bool)) → Option (List Int × Bool)) : Nat → Int → (List Int) → LL → (List (Int × Bool)) → Option (List Int × Bool)
 | 0, _, _, _, _ => none
 | n + 1, t39_b, open7_b, sequences8_b, o13_b => cond (decide (t39_b < (p0.2.1.length : Int))) ((D p0 t39_b).bind fun r1 =>
   (C (open7_a.getD 0 (0 : Int)) r1).bind fun r2 =>
   cond (!((mget (kt := .int .u8) (vt := .bool) o13_b r2).getD false)) (chk (small (open7_b.length + 1) 1) ((G (sequences8_a.getD 0 ([] : List Int))).bind fun r3 =>
   chk (small (r3.length + 1) 8) (chk (small (sequences8_b.length + 1) 24) ((l94b C D G N p0 want1 open7_a sequences8_a l94a' n (w64 (t39_b + 1)) (open7_b ++ ([r2] : List Int)) (sequences8_b ++ ([r3 ++ ([t39_b] : List Int)] : LL)) (mput (kt := .int .u8) (vt := .bool) o13_b r2 true))))))
   ((l94b C D G N p0 want1 open7_a sequences8_a l94a' n (w64 (t39_b + 1)) open7_b sequences8_b o13_b)))
   ((l94a' open7_b sequences8_b o13_b))
theorem wl94b (C : Wm0T22) (D : Wm0T23) (G : Wm0T24) (N : Nat) (p0 : Int × LL × Unit) (want1 : Int) (open7_a : List Int) (sequences8_a : LL) (T94_0 : TS → Option (List Int × Bool)) (m : Nat) (t39_b : Int) (open7_b : List Int) (sequences8_b : LL) (o13_b : List (Int × Bool)) : R94_1 C D G N T94_0 (m + 1) (Sl94b p0 want1 open7_a sequences8_a t39_b open7_b sequences8_b o13_b) = cond (decide (t39_b < (p0.2.1.length : Int))) ((D p0 t39_b).bind fun r1 =>
   (C (open7_a.getD 0 (0 : Int)) r1).bind fun r2 =>
   cond (!((mget (kt := .int .u8) (vt := .bool) o13_b r2).getD false)) (chk (small (open7_b.length + 1) 1) ((G (sequences8_a.getD 0 ([] : List Int))).bind fun r3 =>
   chk (small (r3.length + 1) 8) (chk (small (sequences8_b.length + 1) 24) ((R94_1 C D G N T94_0 m (Sl94b p0 want1 open7_a sequences8_a (w64 (t39_b + 1)) (open7_b ++ ([r2] : List Int)) (sequences8_b ++ ([r3 ++ ([t39_b] : List Int)] : LL)) (mput (kt := .int .u8) (vt := .bool) o13_b r2 true)))))))
   ((R94_1 C D G N T94_0 m (Sl94b p0 want1 open7_a sequences8_a (w64 (t39_b + 1)) open7_b sequences8_b o13_b))))
   ((T94_0 (Sl94a p0 want1 open7_b sequences8_b o13_b))) := by kernel_rfl
theorem ql94b (C : Wm0T22) (D : Wm0T23) (G : Wm0T24) (N : Nat) (p0 : Int × LL × Unit) (want1 : Int) (open7_a : List Int) (sequences8_a : LL) (T94_0 : TS → Option (List Int × Bool)) : ∀ (m : Nat) (t39_b : Int) (open7_b : List Int) (sequences8_b : LL) (o13_b : List (Int × Bool)), R94_1 C D G N T94_0 m (Sl94b p0 want1 open7_a sequences8_a t39_b open7_b sequences8_b o13_b) = l94b C D G N p0 want1 open7_a sequences8_a (fun y0 y1 y2 => T94_0 (Sl94a p0 want1 y0 y1 y2)) m t39_b open7_b sequences8_b o13_b
        | 0, _, _, _, _ => rfl
        | m + 1, t39_b, open7_b, sequences8_b, o13_b => by rw [wl94b]; simp only [l94b, ql94b C D G N p0 want1 open7_a sequences8_a T94_0 m]
def l94a (C : Wm0T22) (D : Wm0T23) (G : Wm0T24) (N : Nat) (p0 : Int × LL × Unit) (want1 : Int) : Nat → (List Int) → LL → (List (Int × Bool)) → Option (List Int × Bool)
 | 0, _, _, _ => none
 | n + 1, open7_a, sequences8_a, o13_a => cond (decide ((open7_a.length : Int) > (0 : Int))) (chk (decide (0 ≤ (0 : Int) ∧ (0 : Int) < (open7_a.length : Int))) (chk (decide (0 ≤ (0 : Int) ∧ (0 : Int) < (sequences8_a.length : Int))) (chk (decide (0 ≤ (1 : Int) ∧ (1 : Int) ≤ (open7_a.length : Int))) (chk (decide (0 ≤ (1 : Int) ∧ (1 : Int) ≤ (sequences8_a.length : Int))) (cond ((bAnd .u8 (open7_a.getD 0 (0 : Int)) want1) == want1) (some (sequences8_a.getD 0 ([] : List Int), true))
   ((l94b C D G N p0 want1 open7_a sequences8_a (fun y0 y1 y2 => (l94a C D G N p0 want1 n y0 y1 y2)) N (0 : Int) (open7_a.drop 1) (sequences8_a.drop 1) o13_a)))))))
   (some (([] : List Int), false))
theorem wl94a (C : Wm0T22) (D : Wm0T23) (G : Wm0T24) (N : Nat) (p0 : Int × LL × Unit) (want1 : Int) (m : Nat) (open7_a : List Int) (sequences8_a : LL) (o13_a : List (Int × Bool)) : R94_0 C D G N (m + 1) (Sl94a p0 want1 open7_a sequences8_a o13_a) = cond (decide ((open7_a.length : Int) > (0 : Int))) (chk (decide (0 ≤ (0 : Int) ∧ (0 : Int) < (open7_a.length : Int))) (chk (decide (0 ≤ (0 : Int) ∧ (0 : Int) < (sequences8_a.length : Int))) (chk (decide (0 ≤ (1 : Int) ∧ (1 : Int) ≤ (open7_a.length : Int))) (chk (decide (0 ≤ (1 : Int) ∧ (1 : Int) ≤ (sequences8_a.length : Int))) (cond ((bAnd .u8 (open7_a.getD 0 (0 : Int)) want1) == want1) (some (sequences8_a.getD 0 ([] : List Int), true))
   ((R94_1 C D G N (R94_0 C D G N m) N (Sl94b p0 want1 open7_a sequences8_a (0 : Int) (open7_a.drop 1) (sequences8_a.drop 1) o13_a))))))))
   (some (([] : List Int), false)) := by kernel_rfl
theorem ql94a (C : Wm0T22) (D : Wm0T23) (G : Wm0T24) (N : Nat) (p0 : Int × LL × Unit) (want1 : Int) : ∀ (m : Nat) (open7_a : List Int) (sequences8_a : LL) (o13_a : List (Int × Bool)), R94_0 C D G N m (Sl94a p0 want1 open7_a sequences8_a o13_a) = l94a C D G N p0 want1 m open7_a sequences8_a o13_a
        | 0, _, _, _ => rfl
        | m + 1, open7_a, sequences8_a, o13_a => by rw [wl94a]; simp only [l94a, ql94b, ql94a C D G N p0 want1 m]
def m94 (C : Wm0T22) (D : Wm0T23) (G : Wm0T24) (N : Nat) (p0 : Int × LL × Unit) (want1 : Int) : Option (List Int × Bool) :=
   (l94a C D G N p0 want1 N ([(1 : Int)] : List Int) ([([] : List Int)] : LL) (mput (kt := .int .u8) (vt := .bool) ([] : List (Int × Bool)) (1 : Int) true))
theorem wm94 (C : Wm0T22) (D : Wm0T23) (G : Wm0T24) (N : Nat) (p0 : Int × LL × Unit) (want1 : Int) : callF (E94 C D G) lv94 N en94 c94 (resOf Try.f94) 64 [.dv w0Z2 p0, .dv (.int .u8) want1] [] dec94 = (R94_0 C D G N N (Sl94a p0 want1 ([(1 : Int)] : List Int) ([([] : List Int)] : LL) (mput (kt := .int .u8) (vt := .bool) ([] : List (Int × Bool)) (1 : Int) true))) := by kernel_rfl
theorem k94 (C : Wm0T22) (D : Wm0T23) (G : Wm0T24) (N : Nat) (p0 : Int × LL × Unit) (want1 : Int) : callF (E94 C D G) lv94 N en94 c94 (resOf Try.f94) 64 [.dv w0Z2 p0, .dv (.int .u8) want1] [] dec94 = m94 C D G N p0 want1 := by rw [wm94]; simp only [m94, ql94a]
theorem ok94 (C : Wm0T22) (D : Wm0T23) (G : Wm0T24) (h101 : FnOk Try.prog 101 (F101 C)) (h102 : FnOk Try.prog 102 (F102 D)) (h43 : FnOk Try.prog 43 (F43 G)) (a : (Int × LL × Unit) → Int → Option (List Int × Bool)) (h : ∀ p0 want1 r, a p0 want1 = some r → (∃ N, m94 C D G N p0 want1 = some r)) : FnOk Try.prog 94 (F94 a) := by
 intro args Of x hx
 simp only [F94] at hx
 split at hx
 ·rename_i p0 want1
  obtain ⟨N, hN⟩ := h _ _ _ hx
  refine lifted (L := [(101, F101 C), (102, F102 D), (43, F43 G)]) (rc := nrc) (fz := (fun i => ([27, 29] : List Nat).contains i)) (fn := Try.f94) (by kernel_rfl) (by kernel_rfl) (by kernel_rfl) (by kernel_rfl) rfl ?_ ((k94 C D G N _ _).trans hN) ?_
  ·intro p hp; simp only [List.mem_cons, List.not_mem_nil, or_false] at hp; rcases hp with rfl | rfl | rfl
   ·exact h101
   ·exact h102
   ·exact h43
  ·intro l o hd
   simp only [dec94] at hd
   split at hd
   ·obtain rfl := oij hd; exact ⟨rfl, rfl⟩
   ·cases hd
 ·cases hx
def E76 (a92 : Wm0T25) (a93 : Wm0T26) (a94 : Wm0T27) : Env := mkE TI TY [(92, F92 a92), (93, F93 a93), (94, F94 a94)] nrc nfz
noncomputable def c76 : Code := bodyOf Try.f76
def lv76 : Nat → Option Norm := norms []
def en76 : End := ⟨[(34, .sl (.int .i64))], ⟨[34, 35], [], [], []⟩⟩
def dec76 (l : List TV) (o : List (Nat × TO)) : Option (List Int × Int) := match l, o with | [.dv (.sl (.int .i64)) x0, .dv (.int .i64) x1], [] => some (x0, x1) | _, _ => none
def m76 (a92 : Wm0T25) (a93 : Wm0T26) (a94 : Wm0T27) (N : Nat) (p0 : Int × LL × Unit) (sketch1 : List Int) : Option (List Int × Int) :=
   (a92 p0).bind fun r1 =>
   cond (r1 != (0 : Int)) (some (([] : List Int), r1))
   ((a93 p0 sketch1).bind fun r2 =>
   cond (r2.2 != (0 : Int)) (some (([] : List Int), r2.2))
   ((a94 p0 r2.1).bind fun r3 =>
   cond (!r3.2) (some (([] : List Int), (14 : Int)))
   (some (r3.1, (0 : Int)))))
theorem k76 (a92 : Wm0T25) (a93 : Wm0T26) (a94 : Wm0T27) (N : Nat) (p0 : Int × LL × Unit) (sketch1 : List Int) : callF (E76 a92 a93 a94) lv76 N en76 c76 (resOf Try.f76) 32 [.dv w0Z2 p0, .dv w0Z0 sketch1] [] dec76 = m76 a92 a93 a94 N p0 sketch1 := by kernel_rfl
theorem ok76 (a92 : Wm0T25) (a93 : Wm0T26) (a94 : Wm0T27) (h92 : FnOk Try.prog 92 (F92 a92)) (h93 : FnOk Try.prog 93 (F93 a93)) (h94 : FnOk Try.prog 94 (F94 a94)) (a : (Int × LL × Unit) → (List Int) → Option (List Int × Int)) (h : ∀ p0 sketch1 r, a p0 sketch1 = some r → (∃ N, m76 a92 a93 a94 N p0 sketch1 = some r)) : FnOk Try.prog 76 (F76 a) := by
 intro args Of x hx
 simp only [F76] at hx
 split at hx
 ·rename_i p0 sketch1
  obtain ⟨N, hN⟩ := h _ _ _ hx
  refine lifted (L := [(92, F92 a92), (93, F93 a93), (94, F94 a94)]) (rc := nrc) (fz := nfz) (fn := Try.f76) (by kernel_rfl) (by kernel_rfl) (by kernel_rfl) (by kernel_rfl) rfl ?_ ((k76 a92 a93 a94 N _ _).trans hN) ?_
  ·intro p hp; simp only [List.mem_cons, List.not_mem_nil, or_false] at hp; rcases hp with rfl | rfl | rfl
   ·exact h92
   ·exact h93
   ·exact h94
  ·intro l o hd
   simp only [dec76] at hd
   split at hd
   ·obtain rfl := oij hd; exact ⟨rfl, rfl⟩
   ·cases hd
 ·cases hx
def E46 (a20 : Wm0T13) (a75 : Wm0T28) (a76 : Wm0T29) : Env := mkE TI TY [(20, F20 a20), (75, F75 a75), (76, F76 a76)] nrc nfz
noncomputable def c46 : Code := bodyOf Try.f46
def lv46 : Nat → Option Norm := norms []
def en46 : End := ⟨[], ⟨[49], [], [], []⟩⟩
def dec46 (l : List TV) (o : List (Nat × TO)) : Option (Bool) := match l, o with | [.dv (.bool) x0], [] => some (x0) | _, _ => none
def m46 (a20 : Wm0T13) (a75 : Wm0T28) (a76 : Wm0T29) (N : Nat) : Option (Bool) :=
   (a75 (5 : Int) (2 : Int)).bind fun r1 =>
   cond (r1.2 != (0 : Int)) (some false)
   (cond ((r1.1.length : Int) != (5 : Int)) (some false)
   ((a20 r1.1 ([(1 : Int), (2 : Int)] : List Int)).bind fun r2 =>
   (a76 ((5 : Int), (([([(1 : Int), (1 : Int), (3 : Int), (3 : Int), (4 : Int)] : List Int), ([(2 : Int), (3 : Int), (2 : Int), (3 : Int), (4 : Int)] : List Int), ([(4 : Int), (4 : Int), (4 : Int), (4 : Int), (4 : Int)] : List Int)] : LL), ())) ([(3 : Int), (4 : Int)] : List Int)).bind fun r3 =>
   cond (r2.2 == (0 : Int)) (cond (r3.2 == (0 : Int)) (cond (r2.1 == (2 : Int)) (some ((r3.1.length : Int) == (3 : Int)))
   (some false))
   (some false))
   (some false)))
theorem k46 (a20 : Wm0T13) (a75 : Wm0T28) (a76 : Wm0T29) (N : Nat) : callF (E46 a20 a75 a76) lv46 N en46 c46 (resOf Try.f46) 49 [] [] dec46 = m46 a20 a75 a76 N := by kernel_rfl
theorem ok46 (a20 : Wm0T13) (a75 : Wm0T28) (a76 : Wm0T29) (h20 : FnOk Try.prog 20 (F20 a20)) (h75 : FnOk Try.prog 75 (F75 a75)) (h76 : FnOk Try.prog 76 (F76 a76)) (a : Option (Bool)) (h : ∀ r, a = some r → (∃ N, m46 a20 a75 a76 N = some r)) : FnOk Try.prog 46 (F46 a) := by
 intro args Of x hx
 simp only [F46] at hx
 split at hx
 ·skip
  obtain ⟨N, hN⟩ := h _ hx
  refine lifted (L := [(20, F20 a20), (75, F75 a75), (76, F76 a76)]) (rc := nrc) (fz := nfz) (fn := Try.f46) (by kernel_rfl) (by kernel_rfl) (by kernel_rfl) (by kernel_rfl) rfl ?_ ((k46 a20 a75 a76 N).trans hN) ?_
  ·intro p hp; simp only [List.mem_cons, List.not_mem_nil, or_false] at hp; rcases hp with rfl | rfl | rfl
   ·exact h20
   ·exact h75
   ·exact h76
  ·intro l o hd
   simp only [dec46] at hd
   split at hd
   ·obtain rfl := oij hd; exact ⟨rfl, rfl⟩
   ·cases hd
 ·cases hx
def E17 (a45 : Int → Int → Option (Int × Int)) (a46 : Option (Bool)) : Env := mkE TI TY [(45, F45 a45), (46, F46 a46)] nrc nfz
noncomputable def c17 : Code := bodyOf Try.f17
def lv17 : Nat → Option Norm := norms []
def en17 : End := ⟨[], ⟨[16], [], [], []⟩⟩
def dec17 (l : List TV) (o : List (Nat × TO)) : Option (Bool) := match l, o with | [.dv (.bool) x0], [] => some (x0) | _, _ => none
def m17 (a45 : Int → Int → Option (Int × Int)) (a46 : Option (Bool)) (N : Nat) : Option (Bool) :=
   (a45 (2 : Int) (3 : Int)).bind fun r1 =>
   cond (r1.2 == (0 : Int)) (cond (r1.1 == (12 : Int)) ((a46).bind fun r2 =>
   some r2)
   (some false))
   (some false)
theorem k17 (a45 : Int → Int → Option (Int × Int)) (a46 : Option (Bool)) (N : Nat) : callF (E17 a45 a46) lv17 N en17 c17 (resOf Try.f17) 16 [] [] dec17 = m17 a45 a46 N := by kernel_rfl
theorem ok17 (a45 : Int → Int → Option (Int × Int)) (a46 : Option (Bool)) (h45 : FnOk Try.prog 45 (F45 a45)) (h46 : FnOk Try.prog 46 (F46 a46)) (a : Option (Bool)) (h : ∀ r, a = some r → (∃ N, m17 a45 a46 N = some r)) : FnOk Try.prog 17 (F17 a) := by
 intro args Of x hx
 simp only [F17] at hx
 split at hx
 ·skip
  obtain ⟨N, hN⟩ := h _ hx
  refine lifted (L := [(45, F45 a45), (46, F46 a46)]) (rc := nrc) (fz := nfz) (fn := Try.f17) (by kernel_rfl) (by kernel_rfl) (by kernel_rfl) (by kernel_rfl) rfl ?_ ((k17 a45 a46 N).trans hN) ?_
  ·intro p hp; simp only [List.mem_cons, List.not_mem_nil, or_false] at hp; rcases hp with rfl | rfl
   ·exact h45
   ·exact h46
  ·intro l o hd
   simp only [dec17] at hd
   split at hd
   ·obtain rfl := oij hd; exact ⟨rfl, rfl⟩
   ·cases hd
 ·cases hx
end Go.Proofs.Ytplbdongegfdnaa
