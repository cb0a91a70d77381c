/-
 The functions that the examples of the chapter reaches, told as plain functions.
-/
import Derived.Test.YtplbdongegfdnaaQFI
namespace Go.Proofs.Ytplbdongegfdnaa
open Go.RowKit
set_option linter.unusedVariables false
abbrev Wm0T0 := Int → Int → Int → Option (Bool)
abbrev Wm0T1 := Int → Int → (List (List Int)) → Option (Int × List (List Int))
abbrev Wm0T2 := List (List Int)
abbrev Wm0T3 := Int → (List Int) → (List (List Int)) → Option (Int × List (List Int))
abbrev Wm0T4 := (List Int) → Int → Option (Bool × Int)
abbrev Wm0T5 := (List (List Int)) → Int → Option (Int × Int)
abbrev Wm0T6 := Int → Int → Option (Bool × Int)
abbrev Wm0T7 := (List Int) → Int → Option (Int × Int)
abbrev Wm0T8 := Int → Option (List Int)
abbrev Wm0T9 := (List (List Int)) → Int → Option (Bool × Int)
abbrev Wm0T10 := (List (List Int)) → Option (List Int)
abbrev Wm0T11 := Int → (List (List Int)) → Option (Bool × List (List Int))
abbrev Wm0T12 := (List Int) → (List (List Int)) → Option (Int × List (List Int))
abbrev Wm0T13 := (List (List Int)) → Option (Int)
abbrev Wm0T14 := (List Int) → (List (List Int)) → Option (Bool × List (List Int))
abbrev Wm0T15 := (List (List Int)) → Int → (List Int) → Option (Int)
abbrev Wm0T16 := (List (List Int)) → (List Int) → Option (Int)
abbrev Wm0T17 := (List (List Int)) → (List Int) → Option (Int × Int)
abbrev Wm0T18 := (List Int) → Int → Option (Int)
abbrev Wm0T19 := Int → Int → Option (Int)
abbrev Wm0T20 := Int → (List (Int × List (List Int) × Unit)) → Option (Bool × List (Int × List (List Int) × Unit))
abbrev Wm0T21 := List (Int × List (List Int) × Unit)
abbrev Wm0T22 := (List Int) → (List (Int × List (List Int) × Unit)) → Option (Int × List (Int × List (List Int) × Unit))
abbrev Wm0T23 := (List Int) → (List (Int × List (List Int) × Unit)) → Option (Bool × List (Int × List (List Int) × Unit))
abbrev Wm0T24 := Int → Int → Option (Bool)
abbrev Wm0T25 := (List Int) → Option (Int)
abbrev Wm0T26 := Int → (Int ⊕ ((List Int) ⊕ Unit)) → Option (Int)
abbrev Wm0T27 := (Int × List (List Int) × Unit) → Int → Option (Int ⊕ ((List Int) ⊕ Unit))
abbrev Wm0T28 := (List Int) → Option (List Int)
abbrev Wm0T29 := (Int × List (List Int) × Unit) → Option (Int)
abbrev Wm0T30 := (Int × List (List Int) × Unit) → (List Int) → Option (Int × Int)
abbrev Wm0T31 := (Int × List (List Int) × Unit) → Int → Option (List Int × Bool)
abbrev Wm0T32 := Int → Int → Option (List (List Int) × Int)
abbrev Wm0T33 := (Int × List (List Int) × Unit) → (List Int) → Option (List Int × Int)
abbrev Wm0T34 := (List (List Int)) → (List (List Int)) → Option (Int × List (List Int))
abbrev Wm0T35 := Int → Option (Bool)
abbrev Wm0T36 := (List (List Int)) → (List (List Int)) → Option (Bool × List (List Int))
abbrev Wm0T37 := Int → Option (Int)
abbrev Wm0T38 := (List (List Int)) → Option (List Int × List Int)
abbrev Wm0T39 := (List (List Int)) → Int → Option (Int)
abbrev Wm0T40 := (List (List Int)) → Int → Option (Int × List Int × List Int × Int × Int × Int)
abbrev Wm0T41 := Int → (List Int) → Option (Int × List Int)
abbrev Wm0T42 := Int → (List Int) → Int → Option (Int × List Int × Int)
abbrev Wm0T43 := TS → Option (Int × Int)
def E41 : Env := mkE TI TY [] nrc nfz
noncomputable def c41 : Code := bodyOf Try.f41
def lv41 : Nat → Option Norm := norms []
def en41 : End := ⟨[], ⟨[15], [], [], []⟩⟩
def dec41 (l : List TV) (o : List (Nat × TO)) : Option (Bool) := match l, o with | [.dv (.bool) x0], [] => some (x0) | _, _ => none
def m41 (N : Nat) (lo0 : Int) (n1 : Int) (hi2 : Int) : Option (Bool) :=
   cond (decide (lo0 ≤ n1)) (some (decide (n1 ≤ hi2)))
   (some false)
theorem k41 (N : Nat) (lo0 : Int) (n1 : Int) (hi2 : Int) : callF (E41) lv41 N en41 c41 (resOf Try.f41) 12 [.dv (.int .i64) lo0, .dv (.int .i64) n1, .dv (.int .i64) hi2] [] dec41 = m41 N lo0 n1 hi2 := by kernel_rfl
theorem ok41 (a : Int → Int → Int → Option (Bool)) (h : ∀ lo0 n1 hi2 r, a lo0 n1 hi2 = some r → (∃ N, m41 N lo0 n1 hi2 = some r)) : FnOk Try.prog 41 (F41 a) := by
 intro args Of x hx
 simp only [F41] at hx
 split at hx
 ·rename_i lo0 n1 hi2
  obtain ⟨N, hN⟩ := h _ _ _ _ hx
  refine lifted (L := []) (rc := nrc) (fz := nfz) (fn := Try.f41) (by kernel_rfl) (by kernel_rfl) (by kernel_rfl) (by kernel_rfl) rfl ?_ ((k41 N _ _ _).trans hN) ?_
  ·intro p hp; cases hp
  ·intro l o hd
   simp only [dec41] at hd
   split at hd
   ·obtain rfl := oij hd; exact ⟨rfl, rfl⟩
   ·cases hd
 ·cases hx
def E45 (a41 : Wm0T0) : Env := mkE TI TY [(41, F41 a41)] nrc nfz
noncomputable def c45 : Code := bodyOf Try.f45
def nm45_0 : Norm := ⟨[0, 1, 6, 16, 17], [], [], []⟩
def nm45_1 : Norm := ⟨[1, 6, 24, 25], [], [], []⟩
def lv45 : Nat → Option Norm := norms [(5, nm45_0), (9, nm45_1)]
def en45 : End := ⟨[], ⟨[32, 33], [], [], []⟩⟩
def dec45 (l : List TV) (o : List (Nat × TO)) : Option (Int × Int) := match l, o with | [.dv (.int .i64) x0, .dv (.int .i64) x1], [] => some (x0, x1) | _, _ => none
def Sl45b (rows0 : Int) (columns1 : Int) (n6_b : Int) (t25_b : Int) : TS := ⟨slots 32 [(1, .dv (.int .i64) columns1), (6, .dv (.int .i64) n6_b), (24, .dv (.int .i64) (w64 (rows0 - (1 : Int)))), (25, .dv (.int .i64) t25_b)], []⟩
def Sl45a (rows0 : Int) (columns1 : Int) (n6_a : Int) (t17_a : Int) : TS := ⟨slots 32 [(0, .dv (.int .i64) rows0), (1, .dv (.int .i64) columns1), (6, .dv (.int .i64) n6_a), (16, .dv (.int .i64) (w64 (columns1 - (1 : Int)))), (17, .dv (.int .i64) t17_a)], []⟩
noncomputable def K45_0 (a41 : Wm0T0) (N : Nat) : Kont (Int × Int) := kont (E45 a41) lv45 N c45 [1, 1, 1, 0, 1, 0] (fin TI en45 (resOf Try.f45) dec45)
noncomputable def R45_0 (a41 : Wm0T0) (N : Nat) (m : Nat) : TS → Option (Int × Int) := loopK (den (E45 a41) lv45 N (sub c45 [1, 1, 1, 0, 1, 0, 0])) (TS.norm nm45_0) (K45_0 a41 N) m
noncomputable def K45_1 (a41 : Wm0T0) (N : Nat) : Kont (Int × Int) := kont (E45 a41) lv45 N c45 [1, 1, 1, 1, 0, 1, 0] (fin TI en45 (resOf Try.f45) dec45)
noncomputable def R45_1 (a41 : Wm0T0) (N : Nat) (m : Nat) : TS → Option (Int × Int) := loopK (den (E45 a41) lv45 N (sub c45 [1, 1, 1, 1, 0, 1, 0, 0])) (TS.norm nm45_1) (K45_1 a41 N) m
def l45b (a41 : Wm0T0) (N : Nat) (rows0 : Int) (columns1 : Int) : Nat → Int → Int → Option (Int × Int)
 | 0, _, _ => none
 | n + 1, n6_b, t25_b => cond (decide (t25_b < (w64 (rows0 - (1 : Int))))) ((l45b a41 N rows0 columns1 n (w64 (n6_b * columns1)) (w64 (t25_b + (1 : Int)))))
   (some (n6_b, (0 : Int)))
theorem wl45b (a41 : Wm0T0) (N : Nat) (rows0 : Int) (columns1 : Int) (m : Nat) (n6_b : Int) (t25_b : Int) : R45_1 a41 N (m + 1) (Sl45b rows0 columns1 n6_b t25_b) = cond (decide (t25_b < (w64 (rows0 - (1 : Int))))) ((R45_1 a41 N m (Sl45b rows0 columns1 (w64 (n6_b * columns1)) (w64 (t25_b + (1 : Int))))))
   (some (n6_b, (0 : Int))) := by kernel_rfl
theorem ql45b (a41 : Wm0T0) (N : Nat) (rows0 : Int) (columns1 : Int) : ∀ (m : Nat) (n6_b : Int) (t25_b : Int), R45_1 a41 N m (Sl45b rows0 columns1 n6_b t25_b) = l45b a41 N rows0 columns1 m n6_b t25_b
        | 0, _, _ => rfl
        | m + 1, n6_b, t25_b => by rw [wl45b]; simp only [l45b, ql45b a41 N rows0 columns1 m]
def l45a (a41 : Wm0T0) (N : Nat) (rows0 : Int) (columns1 : Int) : Nat → Int → Int → Option (Int × Int)
 | 0, _, _ => none
 | n + 1, n6_a, t17_a => cond (decide (t17_a < (w64 (columns1 - (1 : Int))))) ((l45a a41 N rows0 columns1 n (w64 (n6_a * rows0)) (w64 (t17_a + (1 : Int)))))
   ((l45b a41 N rows0 columns1 N n6_a (0 : Int)))
theorem wl45a (a41 : Wm0T0) (N : Nat) (rows0 : Int) (columns1 : Int) (m : Nat) (n6_a : Int) (t17_a : Int) : R45_0 a41 N (m + 1) (Sl45a rows0 columns1 n6_a t17_a) = cond (decide (t17_a < (w64 (columns1 - (1 : Int))))) ((R45_0 a41 N m (Sl45a rows0 columns1 (w64 (n6_a * rows0)) (w64 (t17_a + (1 : Int))))))
   ((R45_1 a41 N N (Sl45b rows0 columns1 n6_a (0 : Int)))) := by kernel_rfl
theorem ql45a (a41 : Wm0T0) (N : Nat) (rows0 : Int) (columns1 : Int) : ∀ (m : Nat) (n6_a : Int) (t17_a : Int), R45_0 a41 N m (Sl45a rows0 columns1 n6_a t17_a) = l45a a41 N rows0 columns1 m n6_a t17_a
        | 0, _, _ => rfl
        | m + 1, n6_a, t17_a => by rw [wl45a]; simp only [l45a, ql45b, ql45a a41 N rows0 columns1 m]
def m45 (a41 : Wm0T0) (N : Nat) (rows0 : Int) (columns1 : Int) : Option (Int × Int) :=
   (a41 (1 : Int) rows0 (6 : Int)).bind fun r1 =>
   cond (!r1) (some ((0 : Int), (4 : Int)))
   ((a41 (1 : Int) columns1 (6 : Int)).bind fun r2 =>
   cond (!r2) (some ((0 : Int), (4 : Int)))
   ((l45a a41 N rows0 columns1 N (1 : Int) (0 : Int))))
theorem wm45 (a41 : Wm0T0) (N : Nat) (rows0 : Int) (columns1 : Int) : callF (E45 a41) lv45 N en45 c45 (resOf Try.f45) 30 [.dv (.int .i64) rows0, .dv (.int .i64) columns1] [] dec45 = (a41 (1 : Int) rows0 (6 : Int)).bind fun r1 =>
   cond (!r1) (some ((0 : Int), (4 : Int)))
   ((a41 (1 : Int) columns1 (6 : Int)).bind fun r2 =>
   cond (!r2) (some ((0 : Int), (4 : Int)))
   ((R45_0 a41 N N (Sl45a rows0 columns1 (1 : Int) (0 : Int))))) := by kernel_rfl
theorem k45 (a41 : Wm0T0) (N : Nat) (rows0 : Int) (columns1 : Int) : callF (E45 a41) lv45 N en45 c45 (resOf Try.f45) 30 [.dv (.int .i64) rows0, .dv (.int .i64) columns1] [] dec45 = m45 a41 N rows0 columns1 := by rw [wm45]; simp only [m45, ql45a]
theorem ok45 (a41 : Wm0T0) (h41 : FnOk Try.prog 41 (F41 a41)) (a : Int → Int → Option (Int × Int)) (h : ∀ rows0 columns1 r, a rows0 columns1 = some r → (∃ N, m45 a41 N rows0 columns1 = some r)) : FnOk Try.prog 45 (F45 a) := by
 intro args Of x hx
 simp only [F45] at hx
 split at hx
 ·rename_i rows0 columns1
  obtain ⟨N, hN⟩ := h _ _ _ hx
  refine lifted (L := [(41, F41 a41)]) (rc := nrc) (fz := nfz) (fn := Try.f45) (by kernel_rfl) (by kernel_rfl) (by kernel_rfl) (by kernel_rfl) rfl ?_ ((k45 a41 N _ _).trans hN) ?_
  ·intro p hp; simp only [List.mem_cons, List.not_mem_nil, or_false] at hp; rcases hp with rfl; exact h41
  ·intro l o hd
   simp only [dec45] at hd
   split at hd
   ·obtain rfl := oij hd; exact ⟨rfl, rfl⟩
   ·cases hd
 ·cases hx
def E86c : Env := mkE TI TY [] nrc nfz
noncomputable def c86c : Code := bodyOf Try.f86
def lv86c : Nat → Option Norm := norms []
def en86c : End := ⟨[], ⟨[13], [9000], [], []⟩⟩
def dec86c (l : List TV) (o : List (Nat × TO)) : Option (Int × List (List Int)) := match l, o with | [.dv (.int .i64) x0], [(9000, .rcd [.dv (.sl (.sl (.int .i64))) x1])] => some (x0, x1) | _, _ => none
def m86c (N : Nat) (s0 : Int) (d1 : Int) (p2 : List (List Int)) : Option (Int × List (List Int)) :=
   chk (decide (0 ≤ s0 ∧ s0 < (p2.length : Int))) (chk (decide (0 ≤ d1 ∧ d1 < ((p2.getD s0.toNat ([] : List Int)).length : Int))) (some ((p2.getD s0.toNat ([] : List Int)).getD d1.toNat (0 : Int), p2)))
theorem k86c (N : Nat) (s0 : Int) (d1 : Int) (p2 : List (List Int)) : callF (E86c) lv86c N en86c c86c (resOf Try.f86) 10 [.dv (.int .i64) s0, .dv (.int .i64) d1, .ptr 9000 0 [0]] [(9000, .rcd [.dv (.sl (.sl (.int .i64))) p2])] dec86c = m86c N s0 d1 p2 := by kernel_rfl
theorem ok86c (a : Int → Int → (List (List Int)) → Option (Int × List (List Int))) (h : ∀ s0 d1 p2 r, a s0 d1 p2 = some r → (∃ N, m86c N s0 d1 p2 = some r)) : FnOk Try.prog 86 (F86c a) := by
 intro args Of x hx
 simp only [F86c] at hx
 split at hx
 ·rename_i s0 d1 p2
  obtain ⟨N, hN⟩ := h _ _ _ _ hx
  refine lifted (L := []) (rc := nrc) (fz := nfz) (fn := Try.f86) (by kernel_rfl) (by kernel_rfl) (by kernel_rfl) (by kernel_rfl) rfl ?_ ((k86c N _ _ _).trans hN) ?_
  ·intro p hp; cases hp
  ·intro l o hd
   simp only [dec86c] at hd
   split at hd
   ·obtain rfl := oij hd; exact ⟨rfl, rfl⟩
   ·cases hd
 ·cases hx
def E85c86 (a86c : Wm0T1) : Env := mkE TI TY [(86, F86c a86c)] nrc nfz
noncomputable def c85c86 : Code := bodyOf Try.f85
def nm85c86_0 : Norm := ⟨[0, 2, 9, 10, 11], [9000], [], []⟩
def lv85c86 : Nat → Option Norm := norms [(2, nm85c86_0)]
def en85c86 : End := ⟨[], ⟨[21], [9000], [], []⟩⟩
def dec85c86 (l : List TV) (o : List (Nat × TO)) : Option (Int × List (List Int)) := match l, o with | [.dv (.int .i64) x0], [(9000, .rcd [.dv (.sl (.sl (.int .i64))) x1])] => some (x0, x1) | _, _ => none
def Sl85c86a (lx1 : List Int) (start0_a : Int) (t11_a : Int) (o9000_af0 : Wm0T2) : TS := ⟨slots 21 [(0, .dv (.int .i64) start0_a), (2, .fn 86 0 1 fun i => ([.ptr 9000 0 [0]] : List TV).getD i .any), (9, .dv (.sl (.int .i64)) lx1), (10, .dv (.int .i64) (lx1.length : Int)), (11, .dv (.int .i64) t11_a)], [(9000, .rcd [.dv (.sl (.sl (.int .i64))) o9000_af0])]⟩
noncomputable def K85c86_0 (a86c : Wm0T1) (N : Nat) : Kont (Int × List (List Int)) := kont (E85c86 a86c) lv85c86 N c85c86 [1, 0, 1, 0] (fin TI en85c86 (resOf Try.f85) dec85c86)
noncomputable def R85c86_0 (a86c : Wm0T1) (N : Nat) (m : Nat) : TS → Option (Int × List (List Int)) := loopK (den (E85c86 a86c) lv85c86 N (sub c85c86 [1, 0, 1, 0, 0])) (TS.norm nm85c86_0) (K85c86_0 a86c N) m
def l85c86a (a86c : Wm0T1) (N : Nat) (lx1 : List Int) : Nat → Int → Int → (List (List Int)) → Option (Int × List (List Int))
 | 0, _, _, _ => none
 | n + 1, start0_a, t11_a, o9000_af0 => cond (decide (t11_a < (lx1.length : Int))) (chk (decide (0 ≤ t11_a ∧ t11_a < (lx1.length : Int))) ((a86c start0_a (lx1.getD t11_a.toNat (0 : Int)) o9000_af0).bind fun r1 =>
   (l85c86a a86c N lx1 n r1.1 (w64 (t11_a + (1 : Int))) r1.2)))
   (some (start0_a, o9000_af0))
theorem wl85c86a (a86c : Wm0T1) (N : Nat) (lx1 : List Int) (m : Nat) (start0_a : Int) (t11_a : Int) (o9000_af0 : Wm0T2) : R85c86_0 a86c N (m + 1) (Sl85c86a lx1 start0_a t11_a o9000_af0) = cond (decide (t11_a < (lx1.length : Int))) (chk (decide (0 ≤ t11_a ∧ t11_a < (lx1.length : Int))) ((a86c start0_a (lx1.getD t11_a.toNat (0 : Int)) o9000_af0).bind fun r1 =>
   (R85c86_0 a86c N m (Sl85c86a lx1 r1.1 (w64 (t11_a + (1 : Int))) r1.2))))
   (some (start0_a, o9000_af0)) := by kernel_rfl
theorem ql85c86a (a86c : Wm0T1) (N : Nat) (lx1 : List Int) : ∀ (m : Nat) (start0_a : Int) (t11_a : Int) (o9000_af0 : Wm0T2), R85c86_0 a86c N m (Sl85c86a lx1 start0_a t11_a o9000_af0) = l85c86a a86c N lx1 m start0_a t11_a o9000_af0
        | 0, _, _, _ => rfl
        | m + 1, start0_a, t11_a, o9000_af0 => by rw [wl85c86a]; simp only [l85c86a, ql85c86a a86c N lx1 m]
def m85c86 (a86c : Wm0T1) (N : Nat) (start0 : Int) (lx1 : List Int) (p2 : List (List Int)) : Option (Int × List (List Int)) :=
   (l85c86a a86c N lx1 N start0 (0 : Int) p2)
theorem wm85c86 (a86c : Wm0T1) (N : Nat) (start0 : Int) (lx1 : List Int) (p2 : List (List Int)) : callF (E85c86 a86c) lv85c86 N en85c86 c85c86 (resOf Try.f85) 18 [.dv (.int .i64) start0, .dv (.sl (.int .i64)) lx1, .fn 86 0 1 fun i => ([.ptr 9000 0 [0]] : List TV).getD i .any] [(9000, .rcd [.dv (.sl (.sl (.int .i64))) p2])] dec85c86 = (R85c86_0 a86c N N (Sl85c86a lx1 start0 (0 : Int) p2)) := by kernel_rfl
theorem k85c86 (a86c : Wm0T1) (N : Nat) (start0 : Int) (lx1 : List Int) (p2 : List (List Int)) : callF (E85c86 a86c) lv85c86 N en85c86 c85c86 (resOf Try.f85) 18 [.dv (.int .i64) start0, .dv (.sl (.int .i64)) lx1, .fn 86 0 1 fun i => ([.ptr 9000 0 [0]] : List TV).getD i .any] [(9000, .rcd [.dv (.sl (.sl (.int .i64))) p2])] dec85c86 = m85c86 a86c N start0 lx1 p2 := by rw [wm85c86]; simp only [m85c86, ql85c86a]
theorem ok85c86 (a86c : Wm0T1) (h86c : FnOk Try.prog 86 (F86c a86c)) (a : Int → (List Int) → (List (List Int)) → Option (Int × List (List Int))) (h : ∀ start0 lx1 p2 r, a start0 lx1 p2 = some r → (∃ N, m85c86 a86c N start0 lx1 p2 = some r)) : FnOk Try.prog 85 (F85c86 a) := by
 intro args Of x hx
 simp only [F85c86] at hx
 split at hx
 ·rename_i start0 lx1 f_0 p2 heqc
  have hc0 := congrArg (fun c : List (List TV) => c.getD 0 []) heqc
  obtain ⟨N, hN⟩ := h _ _ _ _ hx
  refine HSpec.etaL (args := [.dv (.int .i64) start0, .dv (.sl (.int .i64)) lx1, .fn 86 0 1 fun i => ([.ptr 9000 0 [0]] : List TV).getD i .any]) (O := [(9000, .rcd [.dv (.sl (.sl (.int .i64))) p2])]) ⟨TV.sim_refl _, TV.sim_refl _, TV.sim_fn hc0, trivial⟩ ⟨rfl, TO.sim_refl _, trivial⟩ (lifted (L := [(86, F86c a86c)]) (rc := nrc) (fz := nfz) (fn := Try.f85) (by kernel_rfl) (by kernel_rfl) (by kernel_rfl) (by kernel_rfl) rfl ?_ ((k85c86 a86c N _ _ _).trans hN) ?_)
  ·intro p hp; simp only [List.mem_cons, List.not_mem_nil, or_false] at hp; rcases hp with rfl; exact h86c
  ·intro l o hd
   simp only [dec85c86] at hd
   split at hd
   ·obtain rfl := oij hd; exact ⟨rfl, rfl⟩
   ·cases hd
 ·cases hx
def E53 (a85c86 : Wm0T3) : Env := mkE TI TY [(85, F85c86 a85c86)] nrc nfz
noncomputable def c53 : Code := bodyOf Try.f53
def lv53 : Nat → Option Norm := norms []
def en53 : End := ⟨[], ⟨[11], [], [], []⟩⟩
def dec53 (l : List TV) (o : List (Nat × TO)) : Option (Int) := match l, o with | [.dv (.int .i64) x0], [] => some (x0) | _, _ => none
def m53 (a85c86 : Wm0T3) (N : Nat) (t0 : List (List Int)) (s1 : Int) (lx2 : List Int) : Option (Int) :=
   (a85c86 s1 lx2 t0).bind fun r1 =>
   some r1.1
theorem k53 (a85c86 : Wm0T3) (N : Nat) (t0 : List (List Int)) (s1 : Int) (lx2 : List Int) : callF (E53 a85c86) lv53 N en53 c53 (resOf Try.f53) 8 [.dv (.sl (.sl (.int .i64))) t0, .dv (.int .i64) s1, .dv (.sl (.int .i64)) lx2] [] dec53 = m53 a85c86 N t0 s1 lx2 := by kernel_rfl
theorem ok53 (a85c86 : Wm0T3) (h85c86 : FnOk Try.prog 85 (F85c86 a85c86)) (a : (List (List Int)) → Int → (List Int) → Option (Int)) (h : ∀ t0 s1 lx2 r, a t0 s1 lx2 = some r → (∃ N, m53 a85c86 N t0 s1 lx2 = some r)) : FnOk Try.prog 53 (F53 a) := by
 intro args Of x hx
 simp only [F53] at hx
 split at hx
 ·rename_i t0 s1 lx2
  obtain ⟨N, hN⟩ := h _ _ _ _ hx
  refine lifted (L := [(85, F85c86 a85c86)]) (rc := nrc) (fz := nfz) (fn := Try.f53) (by kernel_rfl) (by kernel_rfl) (by kernel_rfl) (by kernel_rfl) rfl ?_ ((k53 a85c86 N _ _ _).trans hN) ?_
  ·intro p hp; simp only [List.mem_cons, List.not_mem_nil, or_false] at hp; rcases hp with rfl; exact h85c86
  ·intro l o hd
   simp only [dec53] at hd
   split at hd
   ·obtain rfl := oij hd; exact ⟨rfl, rfl⟩
   ·cases hd
 ·cases hx
def E30 : Env := mkE TI TY [] nrc nfz
noncomputable def c30 : Code := bodyOf Try.f30
def lv30 : Nat → Option Norm := norms []
def en30 : End := ⟨[], ⟨[15], [], [], []⟩⟩
def dec30 (l : List TV) (o : List (Nat × TO)) : Option (Bool) := match l, o with | [.dv (.bool) x0], [] => some (x0) | _, _ => none
def m30 (N : Nat) (lo0 : Int) (n1 : Int) (hi2 : Int) : Option (Bool) :=
   cond (decide (lo0 ≤ n1)) (some (decide (n1 ≤ hi2)))
   (some false)
theorem k30 (N : Nat) (lo0 : Int) (n1 : Int) (hi2 : Int) : callF (E30) lv30 N en30 c30 (resOf Try.f30) 12 [.dv (.int .i64) lo0, .dv (.int .i64) n1, .dv (.int .i64) hi2] [] dec30 = m30 N lo0 n1 hi2 := by kernel_rfl
theorem ok30 (a : Int → Int → Int → Option (Bool)) (h : ∀ lo0 n1 hi2 r, a lo0 n1 hi2 = some r → (∃ N, m30 N lo0 n1 hi2 = some r)) : FnOk Try.prog 30 (F30 a) := by
 intro args Of x hx
 simp only [F30] at hx
 split at hx
 ·rename_i lo0 n1 hi2
  obtain ⟨N, hN⟩ := h _ _ _ _ hx
  refine lifted (L := []) (rc := nrc) (fz := nfz) (fn := Try.f30) (by kernel_rfl) (by kernel_rfl) (by kernel_rfl) (by kernel_rfl) rfl ?_ ((k30 N _ _ _).trans hN) ?_
  ·intro p hp; cases hp
  ·intro l o hd
   simp only [dec30] at hd
   split at hd
   ·obtain rfl := oij hd; exact ⟨rfl, rfl⟩
   ·cases hd
 ·cases hx
def E32c : Env := mkE TI TY [] nrc nfz
noncomputable def c32c : Code := bodyOf Try.f32
def lv32c : Nat → Option Norm := norms []
def en32c : End := ⟨[], ⟨[8], [9000], [], []⟩⟩
def dec32c (l : List TV) (o : List (Nat × TO)) : Option (Bool × Int) := match l, o with | [.dv (.bool) x0], [(9000, .rcd [.dv (.int .i64) x1])] => some (x0, x1) | _, _ => none
def m32c (N : Nat) (row0 : List Int) (p1 : Int) : Option (Bool × Int) :=
   some ((row0.length : Int) != p1, p1)
theorem k32c (N : Nat) (row0 : List Int) (p1 : Int) : callF (E32c) lv32c N en32c c32c (resOf Try.f32) 6 [.dv (.sl (.int .i64)) row0, .ptr 9000 0 [0]] [(9000, .rcd [.dv (.int .i64) p1])] dec32c = m32c N row0 p1 := by kernel_rfl
theorem ok32c (a : (List Int) → Int → Option (Bool × Int)) (h : ∀ row0 p1 r, a row0 p1 = some r → (∃ N, m32c N row0 p1 = some r)) : FnOk Try.prog 32 (F32c a) := by
 intro args Of x hx
 simp only [F32c] at hx
 split at hx
 ·rename_i row0 p1
  obtain ⟨N, hN⟩ := h _ _ _ hx
  refine lifted (L := []) (rc := nrc) (fz := nfz) (fn := Try.f32) (by kernel_rfl) (by kernel_rfl) (by kernel_rfl) (by kernel_rfl) rfl ?_ ((k32c N _ _).trans hN) ?_
  ·intro p hp; cases hp
  ·intro l o hd
   simp only [dec32c] at hd
   split at hd
   ·obtain rfl := oij hd; exact ⟨rfl, rfl⟩
   ·cases hd
 ·cases hx
def E67c32 (a32c : Wm0T4) : Env := mkE TI TY [(32, F32c a32c)] nrc nfz
noncomputable def c67c32 : Code := bodyOf Try.f67
def nm67c32_0 : Norm := ⟨[0, 1, 7, 8], [9000], [], []⟩
def lv67c32 : Nat → Option Norm := norms [(2, nm67c32_0)]
def en67c32 : End := ⟨[], ⟨[19], [9000], [], []⟩⟩
def dec67c32 (l : List TV) (o : List (Nat × TO)) : Option (Int × Int) := match l, o with | [.dv (.int .i64) x0], [(9000, .rcd [.dv (.int .i64) x1])] => some (x0, x1) | _, _ => none
def Sl67c32a (s0 : List (List Int)) (t8_a : Int) (o9000_af0 : Int) : TS := ⟨slots 19 [(0, .dv (.sl (.sl (.int .i64))) s0), (1, .fn 32 0 1 fun i => ([.ptr 9000 0 [0]] : List TV).getD i .any), (7, .dv (.int .i64) (s0.length : Int)), (8, .dv (.int .i64) t8_a)], [(9000, .rcd [.dv (.int .i64) o9000_af0])]⟩
noncomputable def K67c32_0 (a32c : Wm0T4) (N : Nat) : Kont (Int × Int) := kont (E67c32 a32c) lv67c32 N c67c32 [1, 0, 1, 0] (fin TI en67c32 (resOf Try.f67) dec67c32)
noncomputable def R67c32_0 (a32c : Wm0T4) (N : Nat) (m : Nat) : TS → Option (Int × Int) := loopK (den (E67c32 a32c) lv67c32 N (sub c67c32 [1, 0, 1, 0, 0])) (TS.norm nm67c32_0) (K67c32_0 a32c N) m
def l67c32a (a32c : Wm0T4) (N : Nat) (s0 : List (List Int)) : Nat → Int → Int → Option (Int × Int)
 | 0, _, _ => none
 | n + 1, t8_a, o9000_af0 => cond (decide (t8_a < (s0.length : Int))) (chk (decide (0 ≤ t8_a ∧ t8_a < (s0.length : Int))) ((a32c (s0.getD t8_a.toNat ([] : List Int)) o9000_af0).bind fun r1 =>
   cond (r1.1) (some (t8_a, r1.2))
   ((l67c32a a32c N s0 n (w64 (t8_a + (1 : Int))) r1.2))))
   (some ((-1 : Int), o9000_af0))
theorem wl67c32a (a32c : Wm0T4) (N : Nat) (s0 : List (List Int)) (m : Nat) (t8_a : Int) (o9000_af0 : Int) : R67c32_0 a32c N (m + 1) (Sl67c32a s0 t8_a o9000_af0) = cond (decide (t8_a < (s0.length : Int))) (chk (decide (0 ≤ t8_a ∧ t8_a < (s0.length : Int))) ((a32c (s0.getD t8_a.toNat ([] : List Int)) o9000_af0).bind fun r1 =>
   cond (r1.1) (some (t8_a, r1.2))
   ((R67c32_0 a32c N m (Sl67c32a s0 (w64 (t8_a + (1 : Int))) r1.2)))))
   (some ((-1 : Int), o9000_af0)) := by kernel_rfl
theorem ql67c32a (a32c : Wm0T4) (N : Nat) (s0 : List (List Int)) : ∀ (m : Nat) (t8_a : Int) (o9000_af0 : Int), R67c32_0 a32c N m (Sl67c32a s0 t8_a o9000_af0) = l67c32a a32c N s0 m t8_a o9000_af0
        | 0, _, _ => rfl
        | m + 1, t8_a, o9000_af0 => by rw [wl67c32a]; simp only [l67c32a, ql67c32a a32c N s0 m]
def m67c32 (a32c : Wm0T4) (N : Nat) (s0 : List (List Int)) (p1 : Int) : Option (Int × Int) :=
   (l67c32a a32c N s0 N (0 : Int) p1)
theorem wm67c32 (a32c : Wm0T4) (N : Nat) (s0 : List (List Int)) (p1 : Int) : callF (E67c32 a32c) lv67c32 N en67c32 c67c32 (resOf Try.f67) 17 [.dv (.sl (.sl (.int .i64))) s0, .fn 32 0 1 fun i => ([.ptr 9000 0 [0]] : List TV).getD i .any] [(9000, .rcd [.dv (.int .i64) p1])] dec67c32 = (R67c32_0 a32c N N (Sl67c32a s0 (0 : Int) p1)) := by kernel_rfl
theorem k67c32 (a32c : Wm0T4) (N : Nat) (s0 : List (List Int)) (p1 : Int) : callF (E67c32 a32c) lv67c32 N en67c32 c67c32 (resOf Try.f67) 17 [.dv (.sl (.sl (.int .i64))) s0, .fn 32 0 1 fun i => ([.ptr 9000 0 [0]] : List TV).getD i .any] [(9000, .rcd [.dv (.int .i64) p1])] dec67c32 = m67c32 a32c N s0 p1 := by rw [wm67c32]; simp only [m67c32, ql67c32a]
theorem ok67c32 (a32c : Wm0T4) (h32c : FnOk Try.prog 32 (F32c a32c)) (a : (List (List Int)) → Int → Option (Int × Int)) (h : ∀ s0 p1 r, a s0 p1 = some r → (∃ N, m67c32 a32c N s0 p1 = some r)) : FnOk Try.prog 67 (F67c32 a) := by
 intro args Of x hx
 simp only [F67c32] at hx
 split at hx
 ·rename_i s0 f_0 p1 heqc
  have hc0 := congrArg (fun c : List (List TV) => c.getD 0 []) heqc
  obtain ⟨N, hN⟩ := h _ _ _ hx
  refine HSpec.etaL (args := [.dv (.sl (.sl (.int .i64))) s0, .fn 32 0 1 fun i => ([.ptr 9000 0 [0]] : List TV).getD i .any]) (O := [(9000, .rcd [.dv (.int .i64) p1])]) ⟨TV.sim_refl _, TV.sim_fn hc0, trivial⟩ ⟨rfl, TO.sim_refl _, trivial⟩ (lifted (L := [(32, F32c a32c)]) (rc := nrc) (fz := nfz) (fn := Try.f67) (by kernel_rfl) (by kernel_rfl) (by kernel_rfl) (by kernel_rfl) rfl ?_ ((k67c32 a32c N _ _).trans hN) ?_)
  ·intro p hp; simp only [List.mem_cons, List.not_mem_nil, or_false] at hp; rcases hp with rfl; exact h32c
  ·intro l o hd
   simp only [dec67c32] at hd
   split at hd
   ·obtain rfl := oij hd; exact ⟨rfl, rfl⟩
   ·cases hd
 ·cases hx
def E31c32 (a67c32 : Wm0T5) : Env := mkE TI TY [(67, F67c32 a67c32)] nrc nfz
noncomputable def c31c32 : Code := bodyOf Try.f31
def lv31c32 : Nat → Option Norm := norms []
def en31c32 : End := ⟨[], ⟨[9], [9000], [], []⟩⟩
def dec31c32 (l : List TV) (o : List (Nat × TO)) : Option (Bool × Int) := match l, o with | [.dv (.bool) x0], [(9000, .rcd [.dv (.int .i64) x1])] => some (x0, x1) | _, _ => none
def m31c32 (a67c32 : Wm0T5) (N : Nat) (s0 : List (List Int)) (p1 : Int) : Option (Bool × Int) :=
   (a67c32 s0 p1).bind fun r1 =>
   some (decide (r1.1 ≥ (0 : Int)), r1.2)
theorem k31c32 (a67c32 : Wm0T5) (N : Nat) (s0 : List (List Int)) (p1 : Int) : callF (E31c32 a67c32) lv31c32 N en31c32 c31c32 (resOf Try.f31) 7 [.dv (.sl (.sl (.int .i64))) s0, .fn 32 0 1 fun i => ([.ptr 9000 0 [0]] : List TV).getD i .any] [(9000, .rcd [.dv (.int .i64) p1])] dec31c32 = m31c32 a67c32 N s0 p1 := by kernel_rfl
theorem ok31c32 (a67c32 : Wm0T5) (h67c32 : FnOk Try.prog 67 (F67c32 a67c32)) (a : (List (List Int)) → Int → Option (Bool × Int)) (h : ∀ s0 p1 r, a s0 p1 = some r → (∃ N, m31c32 a67c32 N s0 p1 = some r)) : FnOk Try.prog 31 (F31c32 a) := by
 intro args Of x hx
 simp only [F31c32] at hx
 split at hx
 ·rename_i s0 f_0 p1 heqc
  have hc0 := congrArg (fun c : List (List TV) => c.getD 0 []) heqc
  obtain ⟨N, hN⟩ := h _ _ _ hx
  refine HSpec.etaL (args := [.dv (.sl (.sl (.int .i64))) s0, .fn 32 0 1 fun i => ([.ptr 9000 0 [0]] : List TV).getD i .any]) (O := [(9000, .rcd [.dv (.int .i64) p1])]) ⟨TV.sim_refl _, TV.sim_fn hc0, trivial⟩ ⟨rfl, TO.sim_refl _, trivial⟩ (lifted (L := [(67, F67c32 a67c32)]) (rc := nrc) (fz := nfz) (fn := Try.f31) (by kernel_rfl) (by kernel_rfl) (by kernel_rfl) (by kernel_rfl) rfl ?_ ((k31c32 a67c32 N _ _).trans hN) ?_)
  ·intro p hp; simp only [List.mem_cons, List.not_mem_nil, or_false] at hp; rcases hp with rfl; exact h67c32
  ·intro l o hd
   simp only [dec31c32] at hd
   split at hd
   ·obtain rfl := oij hd; exact ⟨rfl, rfl⟩
   ·cases hd
 ·cases hx
def E35c (a30 : Wm0T0) : Env := mkE TI TY [(30, F30 a30)] nrc nfz
noncomputable def c35c : Code := bodyOf Try.f35
def lv35c : Nat → Option Norm := norms []
def en35c : End := ⟨[], ⟨[9], [9000], [], []⟩⟩
def dec35c (l : List TV) (o : List (Nat × TO)) : Option (Bool × Int) := match l, o with | [.dv (.bool) x0], [(9000, .rcd [.dv (.int .i64) x1])] => some (x0, x1) | _, _ => none
def m35c (a30 : Wm0T0) (N : Nat) (x0 : Int) (p1 : Int) : Option (Bool × Int) :=
   (a30 (0 : Int) x0 (w64 (p1 - (1 : Int)))).bind fun r1 =>
   some (!r1, p1)
theorem k35c (a30 : Wm0T0) (N : Nat) (x0 : Int) (p1 : Int) : callF (E35c a30) lv35c N en35c c35c (resOf Try.f35) 7 [.dv (.int .i64) x0, .ptr 9000 0 [0]] [(9000, .rcd [.dv (.int .i64) p1])] dec35c = m35c a30 N x0 p1 := by kernel_rfl
theorem ok35c (a30 : Wm0T0) (h30 : FnOk Try.prog 30 (F30 a30)) (a : Int → Int → Option (Bool × Int)) (h : ∀ x0 p1 r, a x0 p1 = some r → (∃ N, m35c a30 N x0 p1 = some r)) : FnOk Try.prog 35 (F35c a) := by
 intro args Of x hx
 simp only [F35c] at hx
 split at hx
 ·rename_i x0 p1
  obtain ⟨N, hN⟩ := h _ _ _ hx
  refine lifted (L := [(30, F30 a30)]) (rc := nrc) (fz := nfz) (fn := Try.f35) (by kernel_rfl) (by kernel_rfl) (by kernel_rfl) (by kernel_rfl) rfl ?_ ((k35c a30 N _ _).trans hN) ?_
  ·intro p hp; simp only [List.mem_cons, List.not_mem_nil, or_false] at hp; rcases hp with rfl; exact h30
  ·intro l o hd
   simp only [dec35c] at hd
   split at hd
   ·obtain rfl := oij hd; exact ⟨rfl, rfl⟩
   ·cases hd
 ·cases hx
def E68c35 (a35c : Wm0T6) : Env := mkE TI TY [(35, F35c a35c)] nrc nfz
noncomputable def c68c35 : Code := bodyOf Try.f68
def nm68c35_0 : Norm := ⟨[0, 1, 7, 8], [9000], [], []⟩
def lv68c35 : Nat → Option Norm := norms [(2, nm68c35_0)]
def en68c35 : End := ⟨[], ⟨[19], [9000], [], []⟩⟩
def dec68c35 (l : List TV) (o : List (Nat × TO)) : Option (Int × Int) := match l, o with | [.dv (.int .i64) x0], [(9000, .rcd [.dv (.int .i64) x1])] => some (x0, x1) | _, _ => none
def Sl68c35a (s0 : List Int) (t8_a : Int) (o9000_af0 : Int) : TS := ⟨slots 19 [(0, .dv (.sl (.int .i64)) s0), (1, .fn 35 0 1 fun i => ([.ptr 9000 0 [0]] : List TV).getD i .any), (7, .dv (.int .i64) (s0.length : Int)), (8, .dv (.int .i64) t8_a)], [(9000, .rcd [.dv (.int .i64) o9000_af0])]⟩
noncomputable def K68c35_0 (a35c : Wm0T6) (N : Nat) : Kont (Int × Int) := kont (E68c35 a35c) lv68c35 N c68c35 [1, 0, 1, 0] (fin TI en68c35 (resOf Try.f68) dec68c35)
noncomputable def R68c35_0 (a35c : Wm0T6) (N : Nat) (m : Nat) : TS → Option (Int × Int) := loopK (den (E68c35 a35c) lv68c35 N (sub c68c35 [1, 0, 1, 0, 0])) (TS.norm nm68c35_0) (K68c35_0 a35c N) m
def l68c35a (a35c : Wm0T6) (N : Nat) (s0 : List Int) : Nat → Int → Int → Option (Int × Int)
 | 0, _, _ => none
 | n + 1, t8_a, o9000_af0 => cond (decide (t8_a < (s0.length : Int))) (chk (decide (0 ≤ t8_a ∧ t8_a < (s0.length : Int))) ((a35c (s0.getD t8_a.toNat (0 : Int)) o9000_af0).bind fun r1 =>
   cond (r1.1) (some (t8_a, r1.2))
   ((l68c35a a35c N s0 n (w64 (t8_a + (1 : Int))) r1.2))))
   (some ((-1 : Int), o9000_af0))
theorem wl68c35a (a35c : Wm0T6) (N : Nat) (s0 : List Int) (m : Nat) (t8_a : Int) (o9000_af0 : Int) : R68c35_0 a35c N (m + 1) (Sl68c35a s0 t8_a o9000_af0) = cond (decide (t8_a < (s0.length : Int))) (chk (decide (0 ≤ t8_a ∧ t8_a < (s0.length : Int))) ((a35c (s0.getD t8_a.toNat (0 : Int)) o9000_af0).bind fun r1 =>
   cond (r1.1) (some (t8_a, r1.2))
   ((R68c35_0 a35c N m (Sl68c35a s0 (w64 (t8_a + (1 : Int))) r1.2)))))
   (some ((-1 : Int), o9000_af0)) := by kernel_rfl
theorem ql68c35a (a35c : Wm0T6) (N : Nat) (s0 : List Int) : ∀ (m : Nat) (t8_a : Int) (o9000_af0 : Int), R68c35_0 a35c N m (Sl68c35a s0 t8_a o9000_af0) = l68c35a a35c N s0 m t8_a o9000_af0
        | 0, _, _ => rfl
        | m + 1, t8_a, o9000_af0 => by rw [wl68c35a]; simp only [l68c35a, ql68c35a a35c N s0 m]
def m68c35 (a35c : Wm0T6) (N : Nat) (s0 : List Int) (p1 : Int) : Option (Int × Int) :=
   (l68c35a a35c N s0 N (0 : Int) p1)
theorem wm68c35 (a35c : Wm0T6) (N : Nat) (s0 : List Int) (p1 : Int) : callF (E68c35 a35c) lv68c35 N en68c35 c68c35 (resOf Try.f68) 17 [.dv (.sl (.int .i64)) s0, .fn 35 0 1 fun i => ([.ptr 9000 0 [0]] : List TV).getD i .any] [(9000, .rcd [.dv (.int .i64) p1])] dec68c35 = (R68c35_0 a35c N N (Sl68c35a s0 (0 : Int) p1)) := by kernel_rfl
theorem k68c35 (a35c : Wm0T6) (N : Nat) (s0 : List Int) (p1 : Int) : callF (E68c35 a35c) lv68c35 N en68c35 c68c35 (resOf Try.f68) 17 [.dv (.sl (.int .i64)) s0, .fn 35 0 1 fun i => ([.ptr 9000 0 [0]] : List TV).getD i .any] [(9000, .rcd [.dv (.int .i64) p1])] dec68c35 = m68c35 a35c N s0 p1 := by rw [wm68c35]; simp only [m68c35, ql68c35a]
theorem ok68c35 (a35c : Wm0T6) (h35c : FnOk Try.prog 35 (F35c a35c)) (a : (List Int) → Int → Option (Int × Int)) (h : ∀ s0 p1 r, a s0 p1 = some r → (∃ N, m68c35 a35c N s0 p1 = some r)) : FnOk Try.prog 68 (F68c35 a) := by
 intro args Of x hx
 simp only [F68c35] at hx
 split at hx
 ·rename_i s0 f_0 p1 heqc
  have hc0 := congrArg (fun c : List (List TV) => c.getD 0 []) heqc
  obtain ⟨N, hN⟩ := h _ _ _ hx
  refine HSpec.etaL (args := [.dv (.sl (.int .i64)) s0, .fn 35 0 1 fun i => ([.ptr 9000 0 [0]] : List TV).getD i .any]) (O := [(9000, .rcd [.dv (.int .i64) p1])]) ⟨TV.sim_refl _, TV.sim_fn hc0, trivial⟩ ⟨rfl, TO.sim_refl _, trivial⟩ (lifted (L := [(35, F35c a35c)]) (rc := nrc) (fz := nfz) (fn := Try.f68) (by kernel_rfl) (by kernel_rfl) (by kernel_rfl) (by kernel_rfl) rfl ?_ ((k68c35 a35c N _ _).trans hN) ?_)
  ·intro p hp; simp only [List.mem_cons, List.not_mem_nil, or_false] at hp; rcases hp with rfl; exact h35c
  ·intro l o hd
   simp only [dec68c35] at hd
   split at hd
   ·obtain rfl := oij hd; exact ⟨rfl, rfl⟩
   ·cases hd
 ·cases hx
def E33c35 (a68c35 : Wm0T7) : Env := mkE TI TY [(68, F68c35 a68c35)] nrc nfz
noncomputable def c33c35 : Code := bodyOf Try.f33
def lv33c35 : Nat → Option Norm := norms []
def en33c35 : End := ⟨[], ⟨[9], [9000], [], []⟩⟩
def dec33c35 (l : List TV) (o : List (Nat × TO)) : Option (Bool × Int) := match l, o with | [.dv (.bool) x0], [(9000, .rcd [.dv (.int .i64) x1])] => some (x0, x1) | _, _ => none
def m33c35 (a68c35 : Wm0T7) (N : Nat) (s0 : List Int) (p1 : Int) : Option (Bool × Int) :=
   (a68c35 s0 p1).bind fun r1 =>
   some (decide (r1.1 ≥ (0 : Int)), r1.2)
theorem k33c35 (a68c35 : Wm0T7) (N : Nat) (s0 : List Int) (p1 : Int) : callF (E33c35 a68c35) lv33c35 N en33c35 c33c35 (resOf Try.f33) 7 [.dv (.sl (.int .i64)) s0, .fn 35 0 1 fun i => ([.ptr 9000 0 [0]] : List TV).getD i .any] [(9000, .rcd [.dv (.int .i64) p1])] dec33c35 = m33c35 a68c35 N s0 p1 := by kernel_rfl
theorem ok33c35 (a68c35 : Wm0T7) (h68c35 : FnOk Try.prog 68 (F68c35 a68c35)) (a : (List Int) → Int → Option (Bool × Int)) (h : ∀ s0 p1 r, a s0 p1 = some r → (∃ N, m33c35 a68c35 N s0 p1 = some r)) : FnOk Try.prog 33 (F33c35 a) := by
 intro args Of x hx
 simp only [F33c35] at hx
 split at hx
 ·rename_i s0 f_0 p1 heqc
  have hc0 := congrArg (fun c : List (List TV) => c.getD 0 []) heqc
  obtain ⟨N, hN⟩ := h _ _ _ hx
  refine HSpec.etaL (args := [.dv (.sl (.int .i64)) s0, .fn 35 0 1 fun i => ([.ptr 9000 0 [0]] : List TV).getD i .any]) (O := [(9000, .rcd [.dv (.int .i64) p1])]) ⟨TV.sim_refl _, TV.sim_fn hc0, trivial⟩ ⟨rfl, TO.sim_refl _, trivial⟩ (lifted (L := [(68, F68c35 a68c35)]) (rc := nrc) (fz := nfz) (fn := Try.f33) (by kernel_rfl) (by kernel_rfl) (by kernel_rfl) (by kernel_rfl) rfl ?_ ((k33c35 a68c35 N _ _).trans hN) ?_)
  ·intro p hp; simp only [List.mem_cons, List.not_mem_nil, or_false] at hp; rcases hp with rfl; exact h68c35
  ·intro l o hd
   simp only [dec33c35] at hd
   split at hd
   ·obtain rfl := oij hd; exact ⟨rfl, rfl⟩
   ·cases hd
 ·cases hx
def E69c : Env := mkE TI TY [] nrc (fun i => ([25] : List Nat).contains i)
noncomputable def c69c : Code := bodyOf Try.f69
def lv69c : Nat → Option Norm := norms []
def en69c : End := ⟨[], ⟨[], [], [(.slot 27, 1500, .int .i64)], []⟩⟩
def dec69c (l : List TV) (o : List (Nat × TO)) : Option (List Int) := match l, o with | [.row 1500], [(1500, .row (.int .i64) x0)] => some (x0) | _, _ => none
def m69c (N : Nat) (n1 : Int) : Option (List Int) :=
   cond (decide (n1 < (0 : Int))) (none)
   (cond (decide ((w64 (n1 - (0 : Int))) > (0 : Int))) (chk (decide ((0 : Int) < (w64 (n1 - (0 : Int)))) && mkOk (w64 (n1 - (0 : Int))) (w64 (n1 - (0 : Int))) 8) (chk (decide (0 ≤ (0 : Int) ∧ (0 : Int) ≤ ((List.replicate ((w64 (n1 - (0 : Int))).toNat) (0 : Int)).length : Int))) (some ((List.replicate ((w64 (n1 - (0 : Int))).toNat) (0 : Int)).take 0))))
   (some ([] : List Int)))
theorem k69c (N : Nat) (n1 : Int) : callF (E69c) lv69c N en69c c69c (resOf Try.f69) 25 [.nl, .dv (.int .i64) n1] [] dec69c = m69c N n1 := by kernel_rfl
theorem ok69c (a : Int → Option (List Int)) (h : ∀ n1 r, a n1 = some r → (∃ N, m69c N n1 = some r)) : FnOk Try.prog 69 (F69c a) := by
 intro args Of x hx
 simp only [F69c] at hx
 split at hx
 ·rename_i n1
  obtain ⟨N, hN⟩ := h _ _ hx
  refine lifted (L := []) (rc := nrc) (fz := (fun i => ([25] : List Nat).contains i)) (fn := Try.f69) (by kernel_rfl) (by kernel_rfl) (by kernel_rfl) (by kernel_rfl) rfl ?_ ((k69c N _).trans hN) ?_
  ·intro p hp; cases hp
  ·intro l o hd
   simp only [dec69c] at hd
   split at hd
   ·obtain rfl := oij hd; exact ⟨rfl, rfl⟩
   ·cases hd
 ·cases hx
def E34 (a69c : Wm0T8) : Env := mkE TI TY [(69, F69c a69c)] nrc nfz
noncomputable def c34 : Code := bodyOf Try.f34
def nm34_0 : Norm := ⟨[0, 3, 9, 10, 11], [], [], []⟩
def nm34_1 : Norm := ⟨[25, 26, 27], [], [(.slot 6, 1006, .int .i64)], []⟩
def lv34 : Nat → Option Norm := norms [(3, nm34_0), (11, nm34_1)]
def en34 : End := ⟨[(36, .sl (.int .i64))], ⟨[36], [], [], []⟩⟩
def dec34 (l : List TV) (o : List (Nat × TO)) : Option (List Int) := match l, o with | [.dv (.sl (.int .i64)) x0], [] => some (x0) | _, _ => none
def Sl34b (slices0 : List (List Int)) (t27_b : Int) (newslice6_b : List Int) : TS := ⟨slots 36 [(6, .row 1006), (25, .dv (.sl (.sl (.int .i64))) slices0), (26, .dv (.int .i64) (slices0.length : Int)), (27, .dv (.int .i64) t27_b)], [(1006, .row (.int .i64) newslice6_b)]⟩
def Sl34a (slices0 : List (List Int)) (size3_a : Int) (t11_a : Int) : TS := ⟨slots 36 [(0, .dv (.sl (.sl (.int .i64))) slices0), (3, .dv (.int .i64) size3_a), (9, .dv (.sl (.sl (.int .i64))) slices0), (10, .dv (.int .i64) (slices0.length : Int)), (11, .dv (.int .i64) t11_a)], []⟩
noncomputable def K34_0 (a69c : Wm0T8) (N : Nat) : Kont (List Int) := kont (E34 a69c) lv34 N c34 [1, 1, 0, 1, 0] (fin TI en34 (resOf Try.f34) dec34)
noncomputable def R34_0 (a69c : Wm0T8) (N : Nat) (m : Nat) : TS → Option (List Int) := loopK (den (E34 a69c) lv34 N (sub c34 [1, 1, 0, 1, 0, 0])) (TS.norm nm34_0) (K34_0 a69c N) m
noncomputable def K34_1 (a69c : Wm0T8) (N : Nat) : Kont (List Int) := kont (E34 a69c) lv34 N c34 [1, 1, 1, 1, 0, 1, 0] (fin TI en34 (resOf Try.f34) dec34)
noncomputable def R34_1 (a69c : Wm0T8) (N : Nat) (m : Nat) : TS → Option (List Int) := loopK (den (E34 a69c) lv34 N (sub c34 [1, 1, 1, 1, 0, 1, 0, 0])) (TS.norm nm34_1) (K34_1 a69c N) m
def l34b (a69c : Wm0T8) (N : Nat) (slices0 : List (List Int)) : Nat → Int → (List Int) → Option (List Int)
 | 0, _, _ => none
 | n + 1, t27_b, newslice6_b => cond (decide (t27_b < (slices0.length : Int))) (chk (decide (0 ≤ t27_b ∧ t27_b < (slices0.length : Int))) (chk (small (newslice6_b.length + (slices0.getD t27_b.toNat ([] : List Int)).length) 8) ((l34b a69c N slices0 n (w64 (t27_b + (1 : Int))) (newslice6_b ++ (slices0.getD t27_b.toNat ([] : List Int)))))))
   (some newslice6_b)
theorem wl34b (a69c : Wm0T8) (N : Nat) (slices0 : List (List Int)) (m : Nat) (t27_b : Int) (newslice6_b : List Int) : R34_1 a69c N (m + 1) (Sl34b slices0 t27_b newslice6_b) = cond (decide (t27_b < (slices0.length : Int))) (chk (decide (0 ≤ t27_b ∧ t27_b < (slices0.length : Int))) (chk (small (newslice6_b.length + (slices0.getD t27_b.toNat ([] : List Int)).length) 8) ((R34_1 a69c N m (Sl34b slices0 (w64 (t27_b + (1 : Int))) (newslice6_b ++ (slices0.getD t27_b.toNat ([] : List Int))))))))
   (some newslice6_b) := by kernel_rfl
theorem ql34b (a69c : Wm0T8) (N : Nat) (slices0 : List (List Int)) : ∀ (m : Nat) (t27_b : Int) (newslice6_b : List Int), R34_1 a69c N m (Sl34b slices0 t27_b newslice6_b) = l34b a69c N slices0 m t27_b newslice6_b
        | 0, _, _ => rfl
        | m + 1, t27_b, newslice6_b => by rw [wl34b]; simp only [l34b, ql34b a69c N slices0 m]
def l34a (a69c : Wm0T8) (N : Nat) (slices0 : List (List Int)) : Nat → Int → Int → Option (List Int)
 | 0, _, _ => none
 | n + 1, size3_a, t11_a => cond (decide (t11_a < (slices0.length : Int))) (chk (decide (0 ≤ t11_a ∧ t11_a < (slices0.length : Int))) (cond (decide ((w64 (size3_a + ((slices0.getD t11_a.toNat ([] : List Int)).length : Int))) < (0 : Int))) (none)
   ((l34a a69c N slices0 n (w64 (size3_a + ((slices0.getD t11_a.toNat ([] : List Int)).length : Int))) (w64 (t11_a + (1 : Int)))))))
   ((a69c size3_a).bind fun r1 =>
   (l34b a69c N slices0 N (0 : Int) r1))
theorem wl34a (a69c : Wm0T8) (N : Nat) (slices0 : List (List Int)) (m : Nat) (size3_a : Int) (t11_a : Int) : R34_0 a69c N (m + 1) (Sl34a slices0 size3_a t11_a) = cond (decide (t11_a < (slices0.length : Int))) (chk (decide (0 ≤ t11_a ∧ t11_a < (slices0.length : Int))) (cond (decide ((w64 (size3_a + ((slices0.getD t11_a.toNat ([] : List Int)).length : Int))) < (0 : Int))) (none)
   ((R34_0 a69c N m (Sl34a slices0 (w64 (size3_a + ((slices0.getD t11_a.toNat ([] : List Int)).length : Int))) (w64 (t11_a + (1 : Int))))))))
   ((a69c size3_a).bind fun r1 =>
   (R34_1 a69c N N (Sl34b slices0 (0 : Int) r1))) := by kernel_rfl
theorem ql34a (a69c : Wm0T8) (N : Nat) (slices0 : List (List Int)) : ∀ (m : Nat) (size3_a : Int) (t11_a : Int), R34_0 a69c N m (Sl34a slices0 size3_a t11_a) = l34a a69c N slices0 m size3_a t11_a
        | 0, _, _ => rfl
        | m + 1, size3_a, t11_a => by rw [wl34a]; simp only [l34a, ql34b, ql34a a69c N slices0 m]
def m34 (a69c : Wm0T8) (N : Nat) (slices0 : List (List Int)) : Option (List Int) :=
   (l34a a69c N slices0 N (0 : Int) (0 : Int))
theorem wm34 (a69c : Wm0T8) (N : Nat) (slices0 : List (List Int)) : callF (E34 a69c) lv34 N en34 c34 (resOf Try.f34) 35 [.dv (.sl (.sl (.int .i64))) slices0] [] dec34 = (R34_0 a69c N N (Sl34a slices0 (0 : Int) (0 : Int))) := by kernel_rfl
theorem k34 (a69c : Wm0T8) (N : Nat) (slices0 : List (List Int)) : callF (E34 a69c) lv34 N en34 c34 (resOf Try.f34) 35 [.dv (.sl (.sl (.int .i64))) slices0] [] dec34 = m34 a69c N slices0 := by rw [wm34]; simp only [m34, ql34a]
theorem ok34 (a69c : Wm0T8) (h69c : FnOk Try.prog 69 (F69c a69c)) (a : (List (List Int)) → Option (List Int)) (h : ∀ slices0 r, a slices0 = some r → (∃ N, m34 a69c N slices0 = some r)) : FnOk Try.prog 34 (F34 a) := by
 intro args Of x hx
 simp only [F34] at hx
 split at hx
 ·rename_i slices0
  obtain ⟨N, hN⟩ := h _ _ hx
  refine lifted (L := [(69, F69c a69c)]) (rc := nrc) (fz := nfz) (fn := Try.f34) (by kernel_rfl) (by kernel_rfl) (by kernel_rfl) (by kernel_rfl) rfl ?_ ((k34 a69c N _).trans hN) ?_
  ·intro p hp; simp only [List.mem_cons, List.not_mem_nil, or_false] at hp; rcases hp with rfl; exact h69c
  ·intro l o hd
   simp only [dec34] at hd
   split at hd
   ·obtain rfl := oij hd; exact ⟨rfl, rfl⟩
   ·cases hd
 ·cases hx
def E36 : Env := mkE TI TY [] nrc nfz
noncomputable def c36 : Code := bodyOf Try.f36
def nm36_0 : Norm := ⟨[0, 3, 11, 12], [], [], []⟩
def nm36_1 : Norm := ⟨[0, 3, 4, 5, 6, 11, 12, 16, 17], [5, 6], [], []⟩
def lv36 : Nat → Option Norm := norms [(3, nm36_0), (7, nm36_1)]
def en36 : End := ⟨[], ⟨[49], [], [], []⟩⟩
def dec36 (l : List TV) (o : List (Nat × TO)) : Option (Bool) := match l, o with | [.dv (.bool) x0], [] => some (x0) | _, _ => none
def Sl36b (t0 : List (List Int)) (t12_a : Int) (twice3_b : Bool) (t17_b : Int) (o5_b : List (List Bool)) (o6_b : List (List Bool)) : TS := ⟨slots 49 [(0, .dv (.sl (.sl (.int .i64))) t0), (3, .dv (.bool) twice3_b), (4, .dv (.int .i64) t12_a), (5, .ptr 5 0 []), (6, .ptr 6 0 []), (11, .dv (.int .i64) (t0.length : Int)), (12, .dv (.int .i64) t12_a), (16, .dv (.int .i64) (t0.length : Int)), (17, .dv (.int .i64) t17_b)], [(5, .row (.arr 10 (.bool)) o5_b), (6, .row (.arr 10 (.bool)) o6_b)]⟩
def Sl36a (t0 : List (List Int)) (twice3_a : Bool) (t12_a : Int) : TS := ⟨slots 49 [(0, .dv (.sl (.sl (.int .i64))) t0), (3, .dv (.bool) twice3_a), (11, .dv (.int .i64) (t0.length : Int)), (12, .dv (.int .i64) t12_a)], []⟩
noncomputable def K36_0 (N : Nat) : Kont (Bool) := kont (E36) lv36 N c36 [1, 0, 1, 1, 0, 1, 0] (fin TI en36 (resOf Try.f36) dec36)
noncomputable def R36_0 (N : Nat) (m : Nat) : TS → Option (Bool) := loopK (den (E36) lv36 N (sub c36 [1, 0, 1, 1, 0, 1, 0, 0])) (TS.norm nm36_0) (K36_0 N) m
noncomputable def K36_1 (N : Nat) (T36_0 : TS → Option (Bool)) : Kont (Bool) := kont (E36) lv36 N (sub c36 [1, 0, 1, 1, 0, 1, 0, 0]) [1, 1, 0, 0, 1, 1, 1, 0] (kloop (TS.norm nm36_0) (K36_0 N) T36_0)
noncomputable def R36_1 (N : Nat) (T36_0 : TS → Option (Bool)) (m : Nat) : TS → Option (Bool) := loopK (den (E36) lv36 N (sub c36 [1, 0, 1, 1, 0, 1, 0, 0, 1, 1, 0, 0, 1, 1, 1, 0, 0])) (TS.norm nm36_1) (K36_1 N T36_0) m
def l36b (N : Nat) (t0 : List (List Int)) (t12_a : Int) (rec_l36a : Bool → Int → Option (Bool)) : Nat → Bool → Int → (List (List Bool)) → (List (List Bool)) → Option (Bool)
 | 0, _, _, _, _ => none
 | n + 1, twice3_b, t17_b, o5_b, o6_b => cond (decide (t17_b < (t0.length : Int))) (chk (decide (0 ≤ t12_a ∧ t12_a < (t0.length : Int))) (chk (decide (0 ≤ t17_b ∧ t17_b < ((t0.getD t12_a.toNat ([] : List Int)).length : Int))) (chk (decide (0 ≤ t17_b ∧ t17_b < (t0.length : Int))) (chk (decide (0 ≤ t12_a ∧ t12_a < ((t0.getD t17_b.toNat ([] : List Int)).length : Int))) (chk (decide (0 ≤ (t0.getD t12_a.toNat ([] : List Int)).getD t17_b.toNat (0 : Int) ∧ (t0.getD t12_a.toNat ([] : List Int)).getD t17_b.toNat (0 : Int) < (10 : Int))) (cond ((o5_b.getD 0 ([false, false, false, false, false, false, false, false, false, false] : List Bool)).getD (((t0.getD t12_a.toNat ([] : List Int)).getD t17_b.toNat (0 : Int)).toNat) false) (some true)
   (chk (decide (0 ≤ (t0.getD t17_b.toNat ([] : List Int)).getD t12_a.toNat (0 : Int) ∧ (t0.getD t17_b.toNat ([] : List Int)).getD t12_a.toNat (0 : Int) < (10 : Int))) (cond ((o6_b.getD 0 ([false, false, false, false, false, false, false, false, false, false] : List Bool)).getD (((t0.getD t17_b.toNat ([] : List Int)).getD t12_a.toNat (0 : Int)).toNat) false) (some true)
   (chk (decide (0 ≤ (t0.getD t12_a.toNat ([] : List Int)).getD t17_b.toNat (0 : Int) ∧ (t0.getD t12_a.toNat ([] : List Int)).getD t17_b.toNat (0 : Int) < (10 : Int))) (chk ((decide (((t0.getD t12_a.toNat ([] : List Int)).getD t17_b.toNat (0 : Int)).toNat < (o5_b.getD 0 ([false, false, false, false, false, false, false, false, false, false] : List Bool)).length)) && (true)) (chk (decide (0 ≤ (t0.getD t17_b.toNat ([] : List Int)).getD t12_a.toNat (0 : Int) ∧ (t0.getD t17_b.toNat ([] : List Int)).getD t12_a.toNat (0 : Int) < (10 : Int))) (chk ((decide (((t0.getD t17_b.toNat ([] : List Int)).getD t12_a.toNat (0 : Int)).toNat < (o6_b.getD 0 ([false, false, false, false, false, false, false, false, false, false] : List Bool)).length)) && (true)) ((l36b N t0 t12_a rec_l36a n twice3_b (w64 (t17_b + (1 : Int))) (o5_b.set 0 ((o5_b.getD 0 ([false, false, false, false, false, false, false, false, false, false] : List Bool)).set (((t0.getD t12_a.toNat ([] : List Int)).getD t17_b.toNat (0 : Int)).toNat) true)) (o6_b.set 0 ((o6_b.getD 0 ([false, false, false, false, false, false, false, false, false, false] : List Bool)).set (((t0.getD t17_b.toNat ([] : List Int)).getD t12_a.toNat (0 : Int)).toNat) true))))))))))))))))
   ((rec_l36a twice3_b (w64 (t12_a + (1 : Int)))))
theorem wl36b (N : Nat) (t0 : List (List Int)) (t12_a : Int) (T36_0 : TS → Option (Bool)) (m : Nat) (twice3_b : Bool) (t17_b : Int) (o5_b : List (List Bool)) (o6_b : List (List Bool)) : R36_1 N T36_0 (m + 1) (Sl36b t0 t12_a twice3_b t17_b o5_b o6_b) = cond (decide (t17_b < (t0.length : Int))) (chk (decide (0 ≤ t12_a ∧ t12_a < (t0.length : Int))) (chk (decide (0 ≤ t17_b ∧ t17_b < ((t0.getD t12_a.toNat ([] : List Int)).length : Int))) (chk (decide (0 ≤ t17_b ∧ t17_b < (t0.length : Int))) (chk (decide (0 ≤ t12_a ∧ t12_a < ((t0.getD t17_b.toNat ([] : List Int)).length : Int))) (chk (decide (0 ≤ (t0.getD t12_a.toNat ([] : List Int)).getD t17_b.toNat (0 : Int) ∧ (t0.getD t12_a.toNat ([] : List Int)).getD t17_b.toNat (0 : Int) < (10 : Int))) (cond ((o5_b.getD 0 ([false, false, false, false, false, false, false, false, false, false] : List Bool)).getD (((t0.getD t12_a.toNat ([] : List Int)).getD t17_b.toNat (0 : Int)).toNat) false) (some true)
   (chk (decide (0 ≤ (t0.getD t17_b.toNat ([] : List Int)).getD t12_a.toNat (0 : Int) ∧ (t0.getD t17_b.toNat ([] : List Int)).getD t12_a.toNat (0 : Int) < (10 : Int))) (cond ((o6_b.getD 0 ([false, false, false, false, false, false, false, false, false, false] : List Bool)).getD (((t0.getD t17_b.toNat ([] : List Int)).getD t12_a.toNat (0 : Int)).toNat) false) (some true)
   (chk (decide (0 ≤ (t0.getD t12_a.toNat ([] : List Int)).getD t17_b.toNat (0 : Int) ∧ (t0.getD t12_a.toNat ([] : List Int)).getD t17_b.toNat (0 : Int) < (10 : Int))) (chk ((decide (((t0.getD t12_a.toNat ([] : List Int)).getD t17_b.toNat (0 : Int)).toNat < (o5_b.getD 0 ([false, false, false, false, false, false, false, false, false, false] : List Bool)).length)) && (true)) (chk (decide (0 ≤ (t0.getD t17_b.toNat ([] : List Int)).getD t12_a.toNat (0 : Int) ∧ (t0.getD t17_b.toNat ([] : List Int)).getD t12_a.toNat (0 : Int) < (10 : Int))) (chk ((decide (((t0.getD t17_b.toNat ([] : List Int)).getD t12_a.toNat (0 : Int)).toNat < (o6_b.getD 0 ([false, false, false, false, false, false, false, false, false, false] : List Bool)).length)) && (true)) ((R36_1 N T36_0 m (Sl36b t0 t12_a twice3_b (w64 (t17_b + (1 : Int))) (o5_b.set 0 ((o5_b.getD 0 ([false, false, false, false, false, false, false, false, false, false] : List Bool)).set (((t0.getD t12_a.toNat ([] : List Int)).getD t17_b.toNat (0 : Int)).toNat) true)) (o6_b.set 0 ((o6_b.getD 0 ([false, false, false, false, false, false, false, false, false, false] : List Bool)).set (((t0.getD t17_b.toNat ([] : List Int)).getD t12_a.toNat (0 : Int)).toNat) true)))))))))))))))))
   ((T36_0 (Sl36a t0 twice3_b (w64 (t12_a + (1 : Int)))))) := by kernel_rfl
theorem ql36b (N : Nat) (t0 : List (List Int)) (t12_a : Int) (T36_0 : TS → Option (Bool)) : ∀ (m : Nat) (twice3_b : Bool) (t17_b : Int) (o5_b : List (List Bool)) (o6_b : List (List Bool)), R36_1 N T36_0 m (Sl36b t0 t12_a twice3_b t17_b o5_b o6_b) = l36b N t0 t12_a (fun y0 y1 => T36_0 (Sl36a t0 y0 y1)) m twice3_b t17_b o5_b o6_b
        | 0, _, _, _, _ => rfl
        | m + 1, twice3_b, t17_b, o5_b, o6_b => by rw [wl36b]; simp only [l36b, ql36b N t0 t12_a T36_0 m]
def l36a (N : Nat) (t0 : List (List Int)) : Nat → Bool → Int → Option (Bool)
 | 0, _, _ => none
 | n + 1, twice3_a, t12_a => cond (decide (t12_a < (t0.length : Int))) ((l36b N t0 t12_a (fun y0 y1 => (l36a N t0 n y0 y1)) N twice3_a (0 : Int) ([([false, false, false, false, false, false, false, false, false, false] : List Bool)] : List (List Bool)) ([([false, false, false, false, false, false, false, false, false, false] : List Bool)] : List (List Bool))))
   (some twice3_a)
theorem wl36a (N : Nat) (t0 : List (List Int)) (m : Nat) (twice3_a : Bool) (t12_a : Int) : R36_0 N (m + 1) (Sl36a t0 twice3_a t12_a) = cond (decide (t12_a < (t0.length : Int))) ((R36_1 N (R36_0 N m) N (Sl36b t0 t12_a twice3_a (0 : Int) ([([false, false, false, false, false, false, false, false, false, false] : List Bool)] : List (List Bool)) ([([false, false, false, false, false, false, false, false, false, false] : List Bool)] : List (List Bool)))))
   (some twice3_a) := by kernel_rfl
theorem ql36a (N : Nat) (t0 : List (List Int)) : ∀ (m : Nat) (twice3_a : Bool) (t12_a : Int), R36_0 N m (Sl36a t0 twice3_a t12_a) = l36a N t0 m twice3_a t12_a
        | 0, _, _ => rfl
        | m + 1, twice3_a, t12_a => by rw [wl36a]; simp only [l36a, ql36b, ql36a N t0 m]
def m36 (N : Nat) (t0 : List (List Int)) : Option (Bool) :=
   (l36a N t0 N false (0 : Int))
theorem wm36 (N : Nat) (t0 : List (List Int)) : callF (E36) lv36 N en36 c36 (resOf Try.f36) 48 [.dv (.sl (.sl (.int .i64))) t0] [] dec36 = (R36_0 N N (Sl36a t0 false (0 : Int))) := by kernel_rfl
theorem k36 (N : Nat) (t0 : List (List Int)) : callF (E36) lv36 N en36 c36 (resOf Try.f36) 48 [.dv (.sl (.sl (.int .i64))) t0] [] dec36 = m36 N t0 := by rw [wm36]; simp only [m36, ql36a]
theorem ok36 (a : (List (List Int)) → Option (Bool)) (h : ∀ t0 r, a t0 = some r → (∃ N, m36 N t0 = some r)) : FnOk Try.prog 36 (F36 a) := by
 intro args Of x hx
 simp only [F36] at hx
 split at hx
 ·rename_i t0
  obtain ⟨N, hN⟩ := h _ _ hx
  refine lifted (L := []) (rc := nrc) (fz := nfz) (fn := Try.f36) (by kernel_rfl) (by kernel_rfl) (by kernel_rfl) (by kernel_rfl) rfl ?_ ((k36 N _).trans hN) ?_
  ·intro p hp; cases hp
  ·intro l o hd
   simp only [dec36] at hd
   split at hd
   ·obtain rfl := oij hd; exact ⟨rfl, rfl⟩
   ·cases hd
 ·cases hx
def E13 (a30 : Wm0T0) (a31c32 : Wm0T9) (a33c35 : Wm0T4) (a34 : Wm0T10) (a36 : (List (List Int)) → Option (Bool)) : Env := mkE TI TY [(30, F30 a30), (31, F31c32 a31c32), (33, F33c35 a33c35), (34, F34 a34), (36, F36 a36)] nrc nfz
noncomputable def c13 : Code := bodyOf Try.f13
def lv13 : Nat → Option Norm := norms []
def en13 : End := ⟨[], ⟨[23], [], [], []⟩⟩
def dec13 (l : List TV) (o : List (Nat × TO)) : Option (Int) := match l, o with | [.dv (.int .i64) x0], [] => some (x0) | _, _ => none
def m13 (a30 : Wm0T0) (a31c32 : Wm0T9) (a33c35 : Wm0T4) (a34 : Wm0T10) (a36 : (List (List Int)) → Option (Bool)) (N : Nat) (table0 : List (List Int)) : Option (Int) :=
   (a30 (2 : Int) (table0.length : Int) (10 : Int)).bind fun r1 =>
   cond (!r1) (some (3 : Int))
   ((a31c32 table0 (table0.length : Int)).bind fun r2 =>
   cond (r2.1) (some (3 : Int))
   ((a34 table0).bind fun r3 =>
   (a33c35 r3 r2.2).bind fun r4 =>
   cond (r4.1) (some (4 : Int))
   ((a36 table0).bind fun r5 =>
   cond (r5) (some (6 : Int))
   (some (0 : Int)))))
theorem k13 (a30 : Wm0T0) (a31c32 : Wm0T9) (a33c35 : Wm0T4) (a34 : Wm0T10) (a36 : (List (List Int)) → Option (Bool)) (N : Nat) (table0 : List (List Int)) : callF (E13 a30 a31c32 a33c35 a34 a36) lv13 N en13 c13 (resOf Try.f13) 22 [.dv (.sl (.sl (.int .i64))) table0] [] dec13 = m13 a30 a31c32 a33c35 a34 a36 N table0 := by kernel_rfl
theorem ok13 (a30 : Wm0T0) (a31c32 : Wm0T9) (a33c35 : Wm0T4) (a34 : Wm0T10) (a36 : (List (List Int)) → Option (Bool)) (h30 : FnOk Try.prog 30 (F30 a30)) (h31c32 : FnOk Try.prog 31 (F31c32 a31c32)) (h33c35 : FnOk Try.prog 33 (F33c35 a33c35)) (h34 : FnOk Try.prog 34 (F34 a34)) (h36 : FnOk Try.prog 36 (F36 a36)) (a : (List (List Int)) → Option (Int)) (h : ∀ table0 r, a table0 = some r → (∃ N, m13 a30 a31c32 a33c35 a34 a36 N table0 = some r)) : FnOk Try.prog 13 (F13 a) := by
 intro args Of x hx
 simp only [F13] at hx
 split at hx
 ·rename_i table0
  obtain ⟨N, hN⟩ := h _ _ hx
  refine lifted (L := [(30, F30 a30), (31, F31c32 a31c32), (33, F33c35 a33c35), (34, F34 a34), (36, F36 a36)]) (rc := nrc) (fz := nfz) (fn := Try.f13) (by kernel_rfl) (by kernel_rfl) (by kernel_rfl) (by kernel_rfl) rfl ?_ ((k13 a30 a31c32 a33c35 a34 a36 N _).trans hN) ?_
  ·intro p hp; simp only [List.mem_cons, List.not_mem_nil, or_false] at hp; rcases hp with rfl | rfl | rfl | rfl | rfl
   ·exact h30
   ·exact h31c32
   ·exact h33c35
   ·exact h34
   ·exact h36
  ·intro l o hd
   simp only [dec13] at hd
   split at hd
   ·obtain rfl := oij hd; exact ⟨rfl, rfl⟩
   ·cases hd
 ·cases hx
def E98c (a30 : Wm0T0) : Env := mkE TI TY [(30, F30 a30)] nrc nfz
noncomputable def c98c : Code := bodyOf Try.f98
def lv98c : Nat → Option Norm := norms []
def en98c : End := ⟨[], ⟨[10], [9000], [], []⟩⟩
def dec98c (l : List TV) (o : List (Nat × TO)) : Option (Bool × List (List Int)) := match l, o with | [.dv (.bool) x0], [(9000, .rcd [.dv (.sl (.sl (.int .i64))) x1])] => some (x0, x1) | _, _ => none
def m98c (a30 : Wm0T0) (N : Nat) (d0 : Int) (p1 : List (List Int)) : Option (Bool × List (List Int)) :=
   (a30 (0 : Int) d0 (w64 ((p1.length : Int) - (1 : Int)))).bind fun r1 =>
   some (!r1, p1)
theorem k98c (a30 : Wm0T0) (N : Nat) (d0 : Int) (p1 : List (List Int)) : callF (E98c a30) lv98c N en98c c98c (resOf Try.f98) 8 [.dv (.int .i64) d0, .ptr 9000 0 [0]] [(9000, .rcd [.dv (.sl (.sl (.int .i64))) p1])] dec98c = m98c a30 N d0 p1 := by kernel_rfl
theorem ok98c (a30 : Wm0T0) (h30 : FnOk Try.prog 30 (F30 a30)) (a : Int → (List (List Int)) → Option (Bool × List (List Int))) (h : ∀ d0 p1 r, a d0 p1 = some r → (∃ N, m98c a30 N d0 p1 = some r)) : FnOk Try.prog 98 (F98c a) := by
 intro args Of x hx
 simp only [F98c] at hx
 split at hx
 ·rename_i d0 p1
  obtain ⟨N, hN⟩ := h _ _ _ hx
  refine lifted (L := [(30, F30 a30)]) (rc := nrc) (fz := nfz) (fn := Try.f98) (by kernel_rfl) (by kernel_rfl) (by kernel_rfl) (by kernel_rfl) rfl ?_ ((k98c a30 N _ _).trans hN) ?_
  ·intro p hp; simp only [List.mem_cons, List.not_mem_nil, or_false] at hp; rcases hp with rfl; exact h30
  ·intro l o hd
   simp only [dec98c] at hd
   split at hd
   ·obtain rfl := oij hd; exact ⟨rfl, rfl⟩
   ·cases hd
 ·cases hx
def E68c98 (a98c : Wm0T11) : Env := mkE TI TY [(98, F98c a98c)] nrc nfz
noncomputable def c68c98 : Code := bodyOf Try.f68
def nm68c98_0 : Norm := ⟨[0, 1, 7, 8], [9000], [], []⟩
def lv68c98 : Nat → Option Norm := norms [(2, nm68c98_0)]
def en68c98 : End := ⟨[], ⟨[19], [9000], [], []⟩⟩
def dec68c98 (l : List TV) (o : List (Nat × TO)) : Option (Int × List (List Int)) := match l, o with | [.dv (.int .i64) x0], [(9000, .rcd [.dv (.sl (.sl (.int .i64))) x1])] => some (x0, x1) | _, _ => none
def Sl68c98a (s0 : List Int) (t8_a : Int) (o9000_af0 : Wm0T2) : TS := ⟨slots 19 [(0, .dv (.sl (.int .i64)) s0), (1, .fn 98 0 1 fun i => ([.ptr 9000 0 [0]] : List TV).getD i .any), (7, .dv (.int .i64) (s0.length : Int)), (8, .dv (.int .i64) t8_a)], [(9000, .rcd [.dv (.sl (.sl (.int .i64))) o9000_af0])]⟩
noncomputable def K68c98_0 (a98c : Wm0T11) (N : Nat) : Kont (Int × List (List Int)) := kont (E68c98 a98c) lv68c98 N c68c98 [1, 0, 1, 0] (fin TI en68c98 (resOf Try.f68) dec68c98)
noncomputable def R68c98_0 (a98c : Wm0T11) (N : Nat) (m : Nat) : TS → Option (Int × List (List Int)) := loopK (den (E68c98 a98c) lv68c98 N (sub c68c98 [1, 0, 1, 0, 0])) (TS.norm nm68c98_0) (K68c98_0 a98c N) m
def l68c98a (a98c : Wm0T11) (N : Nat) (s0 : List Int) : Nat → Int → (List (List Int)) → Option (Int × List (List Int))
 | 0, _, _ => none
 | n + 1, t8_a, o9000_af0 => cond (decide (t8_a < (s0.length : Int))) (chk (decide (0 ≤ t8_a ∧ t8_a < (s0.length : Int))) ((a98c (s0.getD t8_a.toNat (0 : Int)) o9000_af0).bind fun r1 =>
   cond (r1.1) (some (t8_a, r1.2))
   ((l68c98a a98c N s0 n (w64 (t8_a + (1 : Int))) r1.2))))
   (some ((-1 : Int), o9000_af0))
theorem wl68c98a (a98c : Wm0T11) (N : Nat) (s0 : List Int) (m : Nat) (t8_a : Int) (o9000_af0 : Wm0T2) : R68c98_0 a98c N (m + 1) (Sl68c98a s0 t8_a o9000_af0) = cond (decide (t8_a < (s0.length : Int))) (chk (decide (0 ≤ t8_a ∧ t8_a < (s0.length : Int))) ((a98c (s0.getD t8_a.toNat (0 : Int)) o9000_af0).bind fun r1 =>
   cond (r1.1) (some (t8_a, r1.2))
   ((R68c98_0 a98c N m (Sl68c98a s0 (w64 (t8_a + (1 : Int))) r1.2)))))
   (some ((-1 : Int), o9000_af0)) := by kernel_rfl
theorem ql68c98a (a98c : Wm0T11) (N : Nat) (s0 : List Int) : ∀ (m : Nat) (t8_a : Int) (o9000_af0 : Wm0T2), R68c98_0 a98c N m (Sl68c98a s0 t8_a o9000_af0) = l68c98a a98c N s0 m t8_a o9000_af0
        | 0, _, _ => rfl
        | m + 1, t8_a, o9000_af0 => by rw [wl68c98a]; simp only [l68c98a, ql68c98a a98c N s0 m]
def m68c98 (a98c : Wm0T11) (N : Nat) (s0 : List Int) (p1 : List (List Int)) : Option (Int × List (List Int)) :=
   (l68c98a a98c N s0 N (0 : Int) p1)
theorem wm68c98 (a98c : Wm0T11) (N : Nat) (s0 : List Int) (p1 : List (List Int)) : callF (E68c98 a98c) lv68c98 N en68c98 c68c98 (resOf Try.f68) 17 [.dv (.sl (.int .i64)) s0, .fn 98 0 1 fun i => ([.ptr 9000 0 [0]] : List TV).getD i .any] [(9000, .rcd [.dv (.sl (.sl (.int .i64))) p1])] dec68c98 = (R68c98_0 a98c N N (Sl68c98a s0 (0 : Int) p1)) := by kernel_rfl
theorem k68c98 (a98c : Wm0T11) (N : Nat) (s0 : List Int) (p1 : List (List Int)) : callF (E68c98 a98c) lv68c98 N en68c98 c68c98 (resOf Try.f68) 17 [.dv (.sl (.int .i64)) s0, .fn 98 0 1 fun i => ([.ptr 9000 0 [0]] : List TV).getD i .any] [(9000, .rcd [.dv (.sl (.sl (.int .i64))) p1])] dec68c98 = m68c98 a98c N s0 p1 := by rw [wm68c98]; simp only [m68c98, ql68c98a]
theorem ok68c98 (a98c : Wm0T11) (h98c : FnOk Try.prog 98 (F98c a98c)) (a : (List Int) → (List (List Int)) → Option (Int × List (List Int))) (h : ∀ s0 p1 r, a s0 p1 = some r → (∃ N, m68c98 a98c N s0 p1 = some r)) : FnOk Try.prog 68 (F68c98 a) := by
 intro args Of x hx
 simp only [F68c98] at hx
 split at hx
 ·rename_i s0 f_0 p1 heqc
  have hc0 := congrArg (fun c : List (List TV) => c.getD 0 []) heqc
  obtain ⟨N, hN⟩ := h _ _ _ hx
  refine HSpec.etaL (args := [.dv (.sl (.int .i64)) s0, .fn 98 0 1 fun i => ([.ptr 9000 0 [0]] : List TV).getD i .any]) (O := [(9000, .rcd [.dv (.sl (.sl (.int .i64))) p1])]) ⟨TV.sim_refl _, TV.sim_fn hc0, trivial⟩ ⟨rfl, TO.sim_refl _, trivial⟩ (lifted (L := [(98, F98c a98c)]) (rc := nrc) (fz := nfz) (fn := Try.f68) (by kernel_rfl) (by kernel_rfl) (by kernel_rfl) (by kernel_rfl) rfl ?_ ((k68c98 a98c N _ _).trans hN) ?_)
  ·intro p hp; simp only [List.mem_cons, List.not_mem_nil, or_false] at hp; rcases hp with rfl; exact h98c
  ·intro l o hd
   simp only [dec68c98] at hd
   split at hd
   ·obtain rfl := oij hd; exact ⟨rfl, rfl⟩
   ·cases hd
 ·cases hx
def E33c98 (a68c98 : Wm0T12) : Env := mkE TI TY [(68, F68c98 a68c98)] nrc nfz
noncomputable def c33c98 : Code := bodyOf Try.f33
def lv33c98 : Nat → Option Norm := norms []
def en33c98 : End := ⟨[], ⟨[9], [9000], [], []⟩⟩
def dec33c98 (l : List TV) (o : List (Nat × TO)) : Option (Bool × List (List Int)) := match l, o with | [.dv (.bool) x0], [(9000, .rcd [.dv (.sl (.sl (.int .i64))) x1])] => some (x0, x1) | _, _ => none
def m33c98 (a68c98 : Wm0T12) (N : Nat) (s0 : List Int) (p1 : List (List Int)) : Option (Bool × List (List Int)) :=
   (a68c98 s0 p1).bind fun r1 =>
   some (decide (r1.1 ≥ (0 : Int)), r1.2)
theorem k33c98 (a68c98 : Wm0T12) (N : Nat) (s0 : List Int) (p1 : List (List Int)) : callF (E33c98 a68c98) lv33c98 N en33c98 c33c98 (resOf Try.f33) 7 [.dv (.sl (.int .i64)) s0, .fn 98 0 1 fun i => ([.ptr 9000 0 [0]] : List TV).getD i .any] [(9000, .rcd [.dv (.sl (.sl (.int .i64))) p1])] dec33c98 = m33c98 a68c98 N s0 p1 := by kernel_rfl
theorem ok33c98 (a68c98 : Wm0T12) (h68c98 : FnOk Try.prog 68 (F68c98 a68c98)) (a : (List Int) → (List (List Int)) → Option (Bool × List (List Int))) (h : ∀ s0 p1 r, a s0 p1 = some r → (∃ N, m33c98 a68c98 N s0 p1 = some r)) : FnOk Try.prog 33 (F33c98 a) := by
 intro args Of x hx
 simp only [F33c98] at hx
 split at hx
 ·rename_i s0 f_0 p1 heqc
  have hc0 := congrArg (fun c : List (List TV) => c.getD 0 []) heqc
  obtain ⟨N, hN⟩ := h _ _ _ hx
  refine HSpec.etaL (args := [.dv (.sl (.int .i64)) s0, .fn 98 0 1 fun i => ([.ptr 9000 0 [0]] : List TV).getD i .any]) (O := [(9000, .rcd [.dv (.sl (.sl (.int .i64))) p1])]) ⟨TV.sim_refl _, TV.sim_fn hc0, trivial⟩ ⟨rfl, TO.sim_refl _, trivial⟩ (lifted (L := [(68, F68c98 a68c98)]) (rc := nrc) (fz := nfz) (fn := Try.f33) (by kernel_rfl) (by kernel_rfl) (by kernel_rfl) (by kernel_rfl) rfl ?_ ((k33c98 a68c98 N _ _).trans hN) ?_)
  ·intro p hp; simp only [List.mem_cons, List.not_mem_nil, or_false] at hp; rcases hp with rfl; exact h68c98
  ·intro l o hd
   simp only [dec33c98] at hd
   split at hd
   ·obtain rfl := oij hd; exact ⟨rfl, rfl⟩
   ·cases hd
 ·cases hx
def E84 (a13 : Wm0T13) (a33c98 : Wm0T14) : Env := mkE TI TY [(13, F13 a13), (33, F33c98 a33c98)] nrc nfz
noncomputable def c84 : Code := bodyOf Try.f84
def lv84 : Nat → Option Norm := norms []
def en84 : End := ⟨[], ⟨[20], [], [], []⟩⟩
def dec84 (l : List TV) (o : List (Nat × TO)) : Option (Int) := match l, o with | [.dv (.int .i64) x0], [] => some (x0) | _, _ => none
def m84 (a13 : Wm0T13) (a33c98 : Wm0T14) (N : Nat) (t0 : List (List Int)) (lx1 : List Int) : Option (Int) :=
   (a13 t0).bind fun r1 =>
   cond (r1 != (0 : Int)) (some r1)
   (cond (decide ((lx1.length : Int) > (12 : Int))) (some (2 : Int))
   ((a33c98 lx1 t0).bind fun r2 =>
   cond (r2.1) (some (4 : Int))
   (some (0 : Int))))
theorem k84 (a13 : Wm0T13) (a33c98 : Wm0T14) (N : Nat) (t0 : List (List Int)) (lx1 : List Int) : callF (E84 a13 a33c98) lv84 N en84 c84 (resOf Try.f84) 18 [.dv (.sl (.sl (.int .i64))) t0, .dv (.sl (.int .i64)) lx1] [] dec84 = m84 a13 a33c98 N t0 lx1 := by kernel_rfl
theorem ok84 (a13 : Wm0T13) (a33c98 : Wm0T14) (h13 : FnOk Try.prog 13 (F13 a13)) (h33c98 : FnOk Try.prog 33 (F33c98 a33c98)) (a : (List (List Int)) → (List Int) → Option (Int)) (h : ∀ t0 lx1 r, a t0 lx1 = some r → (∃ N, m84 a13 a33c98 N t0 lx1 = some r)) : FnOk Try.prog 84 (F84 a) := by
 intro args Of x hx
 simp only [F84] at hx
 split at hx
 ·rename_i t0 lx1
  obtain ⟨N, hN⟩ := h _ _ _ hx
  refine lifted (L := [(13, F13 a13), (33, F33c98 a33c98)]) (rc := nrc) (fz := nfz) (fn := Try.f84) (by kernel_rfl) (by kernel_rfl) (by kernel_rfl) (by kernel_rfl) rfl ?_ ((k84 a13 a33c98 N _ _).trans hN) ?_
  ·intro p hp; simp only [List.mem_cons, List.not_mem_nil, or_false] at hp; rcases hp with rfl | rfl
   ·exact h13
   ·exact h33c98
  ·intro l o hd
   simp only [dec84] at hd
   split at hd
   ·obtain rfl := oij hd; exact ⟨rfl, rfl⟩
   ·cases hd
 ·cases hx
def E50 (a53 : Wm0T15) (a84 : Wm0T16) : Env := mkE TI TY [(53, F53 a53), (84, F84 a84)] nrc nfz
noncomputable def c50 : Code := bodyOf Try.f50
def lv50 : Nat → Option Norm := norms []
def en50 : End := ⟨[], ⟨[16, 17], [], [], []⟩⟩
def dec50 (l : List TV) (o : List (Nat × TO)) : Option (Int × Int) := match l, o with | [.dv (.int .i64) x0, .dv (.int .i64) x1], [] => some (x0, x1) | _, _ => none
def m50 (a53 : Wm0T15) (a84 : Wm0T16) (N : Nat) (table0 : List (List Int)) (lx1 : List Int) : Option (Int × Int) :=
   (a84 table0 lx1).bind fun r1 =>
   cond (r1 != (0 : Int)) (some ((0 : Int), r1))
   ((a53 table0 (0 : Int) lx1).bind fun r2 =>
   some (r2, (0 : Int)))
theorem k50 (a53 : Wm0T15) (a84 : Wm0T16) (N : Nat) (table0 : List (List Int)) (lx1 : List Int) : callF (E50 a53 a84) lv50 N en50 c50 (resOf Try.f50) 14 [.dv (.sl (.sl (.int .i64))) table0, .dv (.sl (.int .i64)) lx1] [] dec50 = m50 a53 a84 N table0 lx1 := by kernel_rfl
theorem ok50 (a53 : Wm0T15) (a84 : Wm0T16) (h53 : FnOk Try.prog 53 (F53 a53)) (h84 : FnOk Try.prog 84 (F84 a84)) (a : (List (List Int)) → (List Int) → Option (Int × Int)) (h : ∀ table0 lx1 r, a table0 lx1 = some r → (∃ N, m50 a53 a84 N table0 lx1 = some r)) : FnOk Try.prog 50 (F50 a) := by
 intro args Of x hx
 simp only [F50] at hx
 split at hx
 ·rename_i table0 lx1
  obtain ⟨N, hN⟩ := h _ _ _ hx
  refine lifted (L := [(53, F53 a53), (84, F84 a84)]) (rc := nrc) (fz := nfz) (fn := Try.f50) (by kernel_rfl) (by kernel_rfl) (by kernel_rfl) (by kernel_rfl) rfl ?_ ((k50 a53 a84 N _ _).trans hN) ?_
  ·intro p hp; simp only [List.mem_cons, List.not_mem_nil, or_false] at hp; rcases hp with rfl | rfl
   ·exact h53
   ·exact h84
  ·intro l o hd
   simp only [dec50] at hd
   split at hd
   ·obtain rfl := oij hd; exact ⟨rfl, rfl⟩
   ·cases hd
 ·cases hx
def E51 : Env := mkE TI TY [] nrc nfz
noncomputable def c51 : Code := bodyOf Try.f51
def nm51_0 : Norm := ⟨[0, 1, 7, 8], [], [], []⟩
def lv51 : Nat → Option Norm := norms [(2, nm51_0)]
def en51 : End := ⟨[], ⟨[19], [], [], []⟩⟩
def dec51 (l : List TV) (o : List (Nat × TO)) : Option (Int) := match l, o with | [.dv (.int .i64) x0], [] => some (x0) | _, _ => none
def Sl51a (s0 : List Int) (v1 : Int) (t8_a : Int) : TS := ⟨slots 19 [(0, .dv (.sl (.int .i64)) s0), (1, .dv (.int .i64) v1), (7, .dv (.int .i64) (s0.length : Int)), (8, .dv (.int .i64) t8_a)], []⟩
noncomputable def K51_0 (N : Nat) : Kont (Int) := kont (E51) lv51 N c51 [1, 0, 1, 0] (fin TI en51 (resOf Try.f51) dec51)
noncomputable def R51_0 (N : Nat) (m : Nat) : TS → Option (Int) := loopK (den (E51) lv51 N (sub c51 [1, 0, 1, 0, 0])) (TS.norm nm51_0) (K51_0 N) m
def l51a (N : Nat) (s0 : List Int) (v1 : Int) : Nat → Int → Option (Int)
 | 0, _ => none
 | n + 1, t8_a => cond (decide (t8_a < (s0.length : Int))) (chk (decide (0 ≤ t8_a ∧ t8_a < (s0.length : Int))) (cond (v1 == (s0.getD t8_a.toNat (0 : Int))) (some t8_a)
   ((l51a N s0 v1 n (w64 (t8_a + (1 : Int)))))))
   (some (-1 : Int))
theorem wl51a (N : Nat) (s0 : List Int) (v1 : Int) (m : Nat) (t8_a : Int) : R51_0 N (m + 1) (Sl51a s0 v1 t8_a) = cond (decide (t8_a < (s0.length : Int))) (chk (decide (0 ≤ t8_a ∧ t8_a < (s0.length : Int))) (cond (v1 == (s0.getD t8_a.toNat (0 : Int))) (some t8_a)
   ((R51_0 N m (Sl51a s0 v1 (w64 (t8_a + (1 : Int))))))))
   (some (-1 : Int)) := by kernel_rfl
theorem ql51a (N : Nat) (s0 : List Int) (v1 : Int) : ∀ (m : Nat) (t8_a : Int), R51_0 N m (Sl51a s0 v1 t8_a) = l51a N s0 v1 m t8_a
        | 0, _ => rfl
        | m + 1, t8_a => by rw [wl51a]; simp only [l51a, ql51a N s0 v1 m]
def m51 (N : Nat) (s0 : List Int) (v1 : Int) : Option (Int) :=
   (l51a N s0 v1 N (0 : Int))
theorem wm51 (N : Nat) (s0 : List Int) (v1 : Int) : callF (E51) lv51 N en51 c51 (resOf Try.f51) 17 [.dv (.sl (.int .i64)) s0, .dv (.int .i64) v1] [] dec51 = (R51_0 N N (Sl51a s0 v1 (0 : Int))) := by kernel_rfl
theorem k51 (N : Nat) (s0 : List Int) (v1 : Int) : callF (E51) lv51 N en51 c51 (resOf Try.f51) 17 [.dv (.sl (.int .i64)) s0, .dv (.int .i64) v1] [] dec51 = m51 N s0 v1 := by rw [wm51]; simp only [m51, ql51a]
theorem ok51 (a : (List Int) → Int → Option (Int)) (h : ∀ s0 v1 r, a s0 v1 = some r → (∃ N, m51 N s0 v1 = some r)) : FnOk Try.prog 51 (F51 a) := by
 intro args Of x hx
 simp only [F51] at hx
 split at hx
 ·rename_i s0 v1
  obtain ⟨N, hN⟩ := h _ _ _ hx
  refine lifted (L := []) (rc := nrc) (fz := nfz) (fn := Try.f51) (by kernel_rfl) (by kernel_rfl) (by kernel_rfl) (by kernel_rfl) rfl ?_ ((k51 N _ _).trans hN) ?_
  ·intro p hp; cases hp
  ·intro l o hd
   simp only [dec51] at hd
   split at hd
   ·obtain rfl := oij hd; exact ⟨rfl, rfl⟩
   ·cases hd
 ·cases hx
def E20 (a50 : Wm0T17) (a51 : Wm0T18) : Env := mkE TI TY [(50, F50 a50), (51, F51 a51)] nrc nfz
noncomputable def c20 : Code := bodyOf Try.f20
def lv20 : Nat → Option Norm := norms []
def en20 : End := ⟨[], ⟨[22, 23], [], [], []⟩⟩
def dec20 (l : List TV) (o : List (Nat × TO)) : Option (Int × Int) := match l, o with | [.dv (.int .i64) x0, .dv (.int .i64) x1], [] => some (x0, x1) | _, _ => none
def m20 (a50 : Wm0T17) (a51 : Wm0T18) (N : Nat) (table0 : List (List Int)) (lx1 : List Int) : Option (Int × Int) :=
   (a50 table0 lx1).bind fun r1 =>
   cond (r1.2 != (0 : Int)) (some ((0 : Int), r1.2))
   (chk (decide (0 ≤ r1.1 ∧ r1.1 < (table0.length : Int))) ((a51 (table0.getD r1.1.toNat ([] : List Int)) (0 : Int)).bind fun r2 =>
   some (r2, (0 : Int))))
theorem k20 (a50 : Wm0T17) (a51 : Wm0T18) (N : Nat) (table0 : List (List Int)) (lx1 : List Int) : callF (E20 a50 a51) lv20 N en20 c20 (resOf Try.f20) 20 [.dv (.sl (.sl (.int .i64))) table0, .dv (.sl (.int .i64)) lx1] [] dec20 = m20 a50 a51 N table0 lx1 := by kernel_rfl
theorem ok20 (a50 : Wm0T17) (a51 : Wm0T18) (h50 : FnOk Try.prog 50 (F50 a50)) (h51 : FnOk Try.prog 51 (F51 a51)) (a : (List (List Int)) → (List Int) → Option (Int × Int)) (h : ∀ table0 lx1 r, a table0 lx1 = some r → (∃ N, m20 a50 a51 N table0 lx1 = some r)) : FnOk Try.prog 20 (F20 a) := by
 intro args Of x hx
 simp only [F20] at hx
 split at hx
 ·rename_i table0 lx1
  obtain ⟨N, hN⟩ := h _ _ _ hx
  refine lifted (L := [(50, F50 a50), (51, F51 a51)]) (rc := nrc) (fz := nfz) (fn := Try.f20) (by kernel_rfl) (by kernel_rfl) (by kernel_rfl) (by kernel_rfl) rfl ?_ ((k20 a50 a51 N _ _).trans hN) ?_
  ·intro p hp; simp only [List.mem_cons, List.not_mem_nil, or_false] at hp; rcases hp with rfl | rfl
   ·exact h50
   ·exact h51
  ·intro l o hd
   simp only [dec20] at hd
   split at hd
   ·obtain rfl := oij hd; exact ⟨rfl, rfl⟩
   ·cases hd
 ·cases hx
def E91 : Env := mkE TI TY [] nrc nfz
noncomputable def c91 : Code := bodyOf Try.f91
def nm91_0 : Norm := ⟨[0, 1], [], [], []⟩
def lv91 : Nat → Option Norm := norms [(1, nm91_0)]
def en91 : End := ⟨[], ⟨[12], [], [], []⟩⟩
def dec91 (l : List TV) (o : List (Nat × TO)) : Option (Int) := match l, o with | [.dv (.int .i64) x0], [] => some (x0) | _, _ => none
def Sl91a (a0_a : Int) (b1_a : Int) : TS := ⟨slots 12 [(0, .dv (.int .i64) a0_a), (1, .dv (.int .i64) b1_a)], []⟩
noncomputable def K91_0 (N : Nat) : Kont (Int) := kont (E91) lv91 N c91 [1, 0, 0] (fin TI en91 (resOf Try.f91) dec91)
noncomputable def R91_0 (N : Nat) (m : Nat) : TS → Option (Int) := loopK (den (E91) lv91 N (sub c91 [1, 0, 0, 0])) (TS.norm nm91_0) (K91_0 N) m
def l91a (N : Nat) : Nat → Int → Int → Option (Int)
 | 0, _, _ => none
 | n + 1, a0_a, b1_a => cond (decide (b1_a > (0 : Int))) (chk (decide (b1_a ≠ (0 : Int))) ((l91a N n b1_a (Int.tmod a0_a b1_a))))
   (some a0_a)
theorem wl91a (N : Nat) (m : Nat) (a0_a : Int) (b1_a : Int) : R91_0 N (m + 1) (Sl91a a0_a b1_a) = cond (decide (b1_a > (0 : Int))) (chk (decide (b1_a ≠ (0 : Int))) ((R91_0 N m (Sl91a b1_a (Int.tmod a0_a b1_a)))))
   (some a0_a) := by kernel_rfl
theorem ql91a (N : Nat) : ∀ (m : Nat) (a0_a : Int) (b1_a : Int), R91_0 N m (Sl91a a0_a b1_a) = l91a N m a0_a b1_a
        | 0, _, _ => rfl
        | m + 1, a0_a, b1_a => by rw [wl91a]; simp only [l91a, ql91a N m]
def m91 (N : Nat) (ax0 : Int) (b1 : Int) : Option (Int) :=
   (l91a N N ax0 b1)
theorem wm91 (N : Nat) (ax0 : Int) (b1 : Int) : callF (E91) lv91 N en91 c91 (resOf Try.f91) 10 [.dv (.int .i64) ax0, .dv (.int .i64) b1] [] dec91 = (R91_0 N N (Sl91a ax0 b1)) := by kernel_rfl
theorem k91 (N : Nat) (ax0 : Int) (b1 : Int) : callF (E91) lv91 N en91 c91 (resOf Try.f91) 10 [.dv (.int .i64) ax0, .dv (.int .i64) b1] [] dec91 = m91 N ax0 b1 := by rw [wm91]; simp only [m91, ql91a]
theorem ok91 (a : Int → Int → Option (Int)) (h : ∀ ax0 b1 r, a ax0 b1 = some r → (∃ N, m91 N ax0 b1 = some r)) : FnOk Try.prog 91 (F91 a) := by
 intro args Of x hx
 simp only [F91] at hx
 split at hx
 ·rename_i ax0 b1
  obtain ⟨N, hN⟩ := h _ _ _ hx
  refine lifted (L := []) (rc := nrc) (fz := nfz) (fn := Try.f91) (by kernel_rfl) (by kernel_rfl) (by kernel_rfl) (by kernel_rfl) rfl ?_ ((k91 N _ _).trans hN) ?_
  ·intro p hp; cases hp
  ·intro l o hd
   simp only [dec91] at hd
   split at hd
   ·obtain rfl := oij hd; exact ⟨rfl, rfl⟩
   ·cases hd
 ·cases hx
def E75 (a30 : Wm0T0) (a91 : Wm0T19) : Env := mkE TI TY [(30, F30 a30), (91, F91 a91)] nrc (fun i => ([26] : List Nat).contains i)
noncomputable def c75 : Code := bodyOf Try.f75
def nm75_0 : Norm := ⟨[0, 1, 6, 28, 29], [26], [], []⟩
def nm75_1 : Norm := ⟨[0, 1, 6, 7, 28, 29, 32, 33], [26], [], []⟩
def lv75 : Nat → Option Norm := norms [(7, nm75_0), (10, nm75_1)]
def en75 : End := ⟨[(55, .sl (.sl (.int .i64)))], ⟨[55, 56], [], [], []⟩⟩
def dec75 (l : List TV) (o : List (Nat × TO)) : Option (List (List Int) × Int) := match l, o with | [.dv (.sl (.sl (.int .i64))) x0, .dv (.int .i64) x1], [] => some (x0, x1) | _, _ => none
def Sl75b (base0 : Int) (step1 : Int) (t29_a : Int) (t33_b : Int) (o26_b : Wm0T2) : TS := ⟨slots 55 [(0, .dv (.int .i64) base0), (1, .dv (.int .i64) step1), (6, .row 26), (7, .dv (.int .i64) t29_a), (28, .dv (.int .i64) ((List.replicate base0.toNat ([] : List Int)).length : Int)), (29, .dv (.int .i64) t29_a), (32, .dv (.int .i64) base0), (33, .dv (.int .i64) t33_b)], [(26, .mat (.int .i64) o26_b none)]⟩
def Sl75a (base0 : Int) (step1 : Int) (t29_a : Int) (o26_a : Wm0T2) : TS := ⟨slots 55 [(0, .dv (.int .i64) base0), (1, .dv (.int .i64) step1), (6, .row 26), (28, .dv (.int .i64) ((List.replicate base0.toNat ([] : List Int)).length : Int)), (29, .dv (.int .i64) t29_a)], [(26, .mat (.int .i64) o26_a none)]⟩
noncomputable def K75_0 (a30 : Wm0T0) (a91 : Wm0T19) (N : Nat) : Kont (List (List Int) × Int) := kont (E75 a30 a91) lv75 N c75 [1, 1, 1, 0, 1, 0] (fin TI en75 (resOf Try.f75) dec75)
noncomputable def R75_0 (a30 : Wm0T0) (a91 : Wm0T19) (N : Nat) (m : Nat) : TS → Option (List (List Int) × Int) := loopK (den (E75 a30 a91) lv75 N (sub c75 [1, 1, 1, 0, 1, 0, 0])) (TS.norm nm75_0) (K75_0 a30 a91 N) m
noncomputable def K75_1 (a30 : Wm0T0) (a91 : Wm0T19) (N : Nat) (T75_0 : TS → Option (List (List Int) × Int)) : Kont (List (List Int) × Int) := kont (E75 a30 a91) lv75 N (sub c75 [1, 1, 1, 0, 1, 0, 0]) [1, 1, 0, 0, 1, 1, 0] (kloop (TS.norm nm75_0) (K75_0 a30 a91 N) T75_0)
noncomputable def R75_1 (a30 : Wm0T0) (a91 : Wm0T19) (N : Nat) (T75_0 : TS → Option (List (List Int) × Int)) (m : Nat) : TS → Option (List (List Int) × Int) := loopK (den (E75 a30 a91) lv75 N (sub c75 [1, 1, 1, 0, 1, 0, 0, 1, 1, 0, 0, 1, 1, 0, 0])) (TS.norm nm75_1) (K75_1 a30 a91 N T75_0) m
def l75b (a30 : Wm0T0) (a91 : Wm0T19) (N : Nat) (base0 : Int) (step1 : Int) (t29_a : Int) (rec_l75a : Int → (List (List Int)) → Option (List (List Int) × Int)) : Nat → Int → (List (List Int)) → Option (List (List Int) × Int)
 | 0, _, _ => none
 | n + 1, t33_b, o26_b => cond (decide (t33_b < base0)) (chk (decide (0 ≤ t29_a ∧ t29_a < (o26_b.length : Int))) (chk (decide (base0 ≠ (0 : Int))) (chk (small ((o26_b.getD t29_a.toNat ([] : List Int)).length + 1) 8) (chk (decide (0 ≤ t29_a ∧ t29_a < (o26_b.length : Int))) (chk (decide (t29_a.toNat = t29_a.toNat)) ((l75b a30 a91 N base0 step1 t29_a rec_l75a n (w64 (t33_b + (1 : Int))) (o26_b.set t29_a.toNat ((o26_b.getD t29_a.toNat ([] : List Int)) ++ ([Int.tmod (w64 ((w64 (step1 * t29_a)) + t33_b)) base0] : List Int))))))))))
   ((rec_l75a (w64 (t29_a + (1 : Int))) o26_b))
theorem wl75b (a30 : Wm0T0) (a91 : Wm0T19) (N : Nat) (base0 : Int) (step1 : Int) (t29_a : Int) (T75_0 : TS → Option (List (List Int) × Int)) (m : Nat) (t33_b : Int) (o26_b : Wm0T2) : R75_1 a30 a91 N T75_0 (m + 1) (Sl75b base0 step1 t29_a t33_b o26_b) = cond (decide (t33_b < base0)) (chk (decide (0 ≤ t29_a ∧ t29_a < (o26_b.length : Int))) (chk (decide (base0 ≠ (0 : Int))) (chk (small ((o26_b.getD t29_a.toNat ([] : List Int)).length + 1) 8) (chk (decide (0 ≤ t29_a ∧ t29_a < (o26_b.length : Int))) (chk (decide (t29_a.toNat = t29_a.toNat)) ((R75_1 a30 a91 N T75_0 m (Sl75b base0 step1 t29_a (w64 (t33_b + (1 : Int))) (o26_b.set t29_a.toNat ((o26_b.getD t29_a.toNat ([] : List Int)) ++ ([Int.tmod (w64 ((w64 (step1 * t29_a)) + t33_b)) base0] : List Int)))))))))))
   ((T75_0 (Sl75a base0 step1 (w64 (t29_a + (1 : Int))) o26_b))) := by kernel_rfl
theorem ql75b (a30 : Wm0T0) (a91 : Wm0T19) (N : Nat) (base0 : Int) (step1 : Int) (t29_a : Int) (T75_0 : TS → Option (List (List Int) × Int)) : ∀ (m : Nat) (t33_b : Int) (o26_b : Wm0T2), R75_1 a30 a91 N T75_0 m (Sl75b base0 step1 t29_a t33_b o26_b) = l75b a30 a91 N base0 step1 t29_a (fun y0 y1 => T75_0 (Sl75a base0 step1 y0 y1)) m t33_b o26_b
        | 0, _, _ => rfl
        | m + 1, t33_b, o26_b => by rw [wl75b]; simp only [l75b, ql75b a30 a91 N base0 step1 t29_a T75_0 m]
def l75a (a30 : Wm0T0) (a91 : Wm0T19) (N : Nat) (base0 : Int) (step1 : Int) : Nat → Int → (List (List Int)) → Option (List (List Int) × Int)
 | 0, _, _ => none
 | n + 1, t29_a, o26_a => cond (decide (t29_a < ((List.replicate base0.toNat ([] : List Int)).length : Int))) ((l75b a30 a91 N base0 step1 t29_a (fun y0 y1 => (l75a a30 a91 N base0 step1 n y0 y1)) N (0 : Int) o26_a))
   (some (o26_a, (0 : Int)))
theorem wl75a (a30 : Wm0T0) (a91 : Wm0T19) (N : Nat) (base0 : Int) (step1 : Int) (m : Nat) (t29_a : Int) (o26_a : Wm0T2) : R75_0 a30 a91 N (m + 1) (Sl75a base0 step1 t29_a o26_a) = cond (decide (t29_a < ((List.replicate base0.toNat ([] : List Int)).length : Int))) ((R75_1 a30 a91 N (R75_0 a30 a91 N m) N (Sl75b base0 step1 t29_a (0 : Int) o26_a)))
   (some (o26_a, (0 : Int))) := by kernel_rfl
theorem ql75a (a30 : Wm0T0) (a91 : Wm0T19) (N : Nat) (base0 : Int) (step1 : Int) : ∀ (m : Nat) (t29_a : Int) (o26_a : Wm0T2), R75_0 a30 a91 N m (Sl75a base0 step1 t29_a o26_a) = l75a a30 a91 N base0 step1 m t29_a o26_a
        | 0, _, _ => rfl
        | m + 1, t29_a, o26_a => by rw [wl75a]; simp only [l75a, ql75b, ql75a a30 a91 N base0 step1 m]
def m75 (a30 : Wm0T0) (a91 : Wm0T19) (N : Nat) (base0 : Int) (step1 : Int) : Option (List (List Int) × Int) :=
   (a30 (2 : Int) base0 (10 : Int)).bind fun r1 =>
   cond (!r1) (some (([] : List (List Int)), (4 : Int)))
   ((a30 (1 : Int) step1 (w64 (base0 - (1 : Int)))).bind fun r2 =>
   cond (!r2) (some (([] : List (List Int)), (4 : Int)))
   ((a91 base0 step1).bind fun r3 =>
   cond (decide (r3 > (1 : Int))) (some (([] : List (List Int)), (12 : Int)))
   (chk (mkOk base0 base0 24) ((l75a a30 a91 N base0 step1 N (0 : Int) (List.replicate base0.toNat ([] : List Int)))))))
theorem wm75 (a30 : Wm0T0) (a91 : Wm0T19) (N : Nat) (base0 : Int) (step1 : Int) : callF (E75 a30 a91) lv75 N en75 c75 (resOf Try.f75) 53 [.dv (.int .i64) base0, .dv (.int .i64) step1] [] dec75 = (a30 (2 : Int) base0 (10 : Int)).bind fun r1 =>
   cond (!r1) (some (([] : List (List Int)), (4 : Int)))
   ((a30 (1 : Int) step1 (w64 (base0 - (1 : Int)))).bind fun r2 =>
   cond (!r2) (some (([] : List (List Int)), (4 : Int)))
   ((a91 base0 step1).bind fun r3 =>
   cond (decide (r3 > (1 : Int))) (some (([] : List (List Int)), (12 : Int)))
   (chk (mkOk base0 base0 24) ((R75_0 a30 a91 N N (Sl75a base0 step1 (0 : Int) (List.replicate base0.toNat ([] : List Int)))))))) := by kernel_rfl
theorem k75 (a30 : Wm0T0) (a91 : Wm0T19) (N : Nat) (base0 : Int) (step1 : Int) : callF (E75 a30 a91) lv75 N en75 c75 (resOf Try.f75) 53 [.dv (.int .i64) base0, .dv (.int .i64) step1] [] dec75 = m75 a30 a91 N base0 step1 := by rw [wm75]; simp only [m75, ql75a]
theorem ok75 (a30 : Wm0T0) (a91 : Wm0T19) (h30 : FnOk Try.prog 30 (F30 a30)) (h91 : FnOk Try.prog 91 (F91 a91)) (a : Int → Int → Option (List (List Int) × Int)) (h : ∀ base0 step1 r, a base0 step1 = some r → (∃ N, m75 a30 a91 N base0 step1 = some r)) : FnOk Try.prog 75 (F75 a) := by
 intro args Of x hx
 simp only [F75] at hx
 split at hx
 ·rename_i base0 step1
  obtain ⟨N, hN⟩ := h _ _ _ hx
  refine lifted (L := [(30, F30 a30), (91, F91 a91)]) (rc := nrc) (fz := (fun i => ([26] : List Nat).contains i)) (fn := Try.f75) (by kernel_rfl) (by kernel_rfl) (by kernel_rfl) (by kernel_rfl) rfl ?_ ((k75 a30 a91 N _ _).trans hN) ?_
  ·intro p hp; simp only [List.mem_cons, List.not_mem_nil, or_false] at hp; rcases hp with rfl | rfl
   ·exact h30
   ·exact h91
  ·intro l o hd
   simp only [dec75] at hd
   split at hd
   ·obtain rfl := oij hd; exact ⟨rfl, rfl⟩
   ·cases hd
 ·cases hx
def E99 : Env := mkE TI TY [] nrc nfz
noncomputable def c99 : Code := bodyOf Try.f99
def lv99 : Nat → Option Norm := norms []
def en99 : End := ⟨[], ⟨[15], [], [], []⟩⟩
def dec99 (l : List TV) (o : List (Nat × TO)) : Option (Bool) := match l, o with | [.dv (.bool) x0], [] => some (x0) | _, _ => none
def m99 (N : Nat) (lo0 : Int) (n1 : Int) (hi2 : Int) : Option (Bool) :=
   cond (decide (lo0 ≤ n1)) (some (decide (n1 ≤ hi2)))
   (some false)
theorem k99 (N : Nat) (lo0 : Int) (n1 : Int) (hi2 : Int) : callF (E99) lv99 N en99 c99 (resOf Try.f99) 12 [.dv (.int .i64) lo0, .dv (.int .i64) n1, .dv (.int .i64) hi2] [] dec99 = m99 N lo0 n1 hi2 := by kernel_rfl
theorem ok99 (a : Int → Int → Int → Option (Bool)) (h : ∀ lo0 n1 hi2 r, a lo0 n1 hi2 = some r → (∃ N, m99 N lo0 n1 hi2 = some r)) : FnOk Try.prog 99 (F99 a) := by
 intro args Of x hx
 simp only [F99] at hx
 split at hx
 ·rename_i lo0 n1 hi2
  obtain ⟨N, hN⟩ := h _ _ _ _ hx
  refine lifted (L := []) (rc := nrc) (fz := nfz) (fn := Try.f99) (by kernel_rfl) (by kernel_rfl) (by kernel_rfl) (by kernel_rfl) rfl ?_ ((k99 N _ _ _).trans hN) ?_
  ·intro p hp; cases hp
  ·intro l o hd
   simp only [dec99] at hd
   split at hd
   ·obtain rfl := oij hd; exact ⟨rfl, rfl⟩
   ·cases hd
 ·cases hx
def E100c (a99 : Wm0T0) : Env := mkE TI TY [(99, F99 a99)] nrc nfz
noncomputable def c100c : Code := bodyOf Try.f100
def lv100c : Nat → Option Norm := norms []
def en100c : End := ⟨[], ⟨[10], [9000], [], []⟩⟩
def dec100c (l : List TV) (o : List (Nat × TO)) : Option (Bool × List (Int × List (List Int) × Unit)) := match l, o with | [.dv (.bool) x0], [(9000, .row (.pair (.int .i64) (.pair (.sl (.sl (.int .i64))) (.unit))) x1)] => some (x0, x1) | _, _ => none
def m100c (a99 : Wm0T0) (N : Nat) (cx0 : Int) (p1 : List (Int × List (List Int) × Unit)) : Option (Bool × List (Int × List (List Int) × Unit)) :=
   (a99 (0 : Int) cx0 (w64 (((p1.getD 0 ((0 : Int), (([] : List (List Int)), ()))).1) - (1 : Int)))).bind fun r1 =>
   some (!r1, p1)
theorem k100c (a99 : Wm0T0) (N : Nat) (cx0 : Int) (p1 : List (Int × List (List Int) × Unit)) : callF (E100c a99) lv100c N en100c c100c (resOf Try.f100) 8 [.dv (.int .i64) cx0, .ptr 9000 0 []] [(9000, .row (.pair (.int .i64) (.pair (.sl (.sl (.int .i64))) (.unit))) p1)] dec100c = m100c a99 N cx0 p1 := by kernel_rfl
theorem ok100c (a99 : Wm0T0) (h99 : FnOk Try.prog 99 (F99 a99)) (a : Int → (List (Int × List (List Int) × Unit)) → Option (Bool × List (Int × List (List Int) × Unit))) (h : ∀ cx0 p1 r, a cx0 p1 = some r → (∃ N, m100c a99 N cx0 p1 = some r)) : FnOk Try.prog 100 (F100c a) := by
 intro args Of x hx
 simp only [F100c] at hx
 split at hx
 ·rename_i cx0 p1
  obtain ⟨N, hN⟩ := h _ _ _ hx
  refine lifted (L := [(99, F99 a99)]) (rc := nrc) (fz := nfz) (fn := Try.f100) (by kernel_rfl) (by kernel_rfl) (by kernel_rfl) (by kernel_rfl) rfl ?_ ((k100c a99 N _ _).trans hN) ?_
  ·intro p hp; simp only [List.mem_cons, List.not_mem_nil, or_false] at hp; rcases hp with rfl; exact h99
  ·intro l o hd
   simp only [dec100c] at hd
   split at hd
   ·obtain rfl := oij hd; exact ⟨rfl, rfl⟩
   ·cases hd
 ·cases hx
def E68c100 (a100c : Wm0T20) : Env := mkE TI TY [(100, F100c a100c)] nrc nfz
noncomputable def c68c100 : Code := bodyOf Try.f68
def nm68c100_0 : Norm := ⟨[0, 1, 7, 8], [9000], [], []⟩
def lv68c100 : Nat → Option Norm := norms [(2, nm68c100_0)]
def en68c100 : End := ⟨[], ⟨[19], [9000], [], []⟩⟩
def dec68c100 (l : List TV) (o : List (Nat × TO)) : Option (Int × List (Int × List (List Int) × Unit)) := match l, o with | [.dv (.int .i64) x0], [(9000, .row (.pair (.int .i64) (.pair (.sl (.sl (.int .i64))) (.unit))) x1)] => some (x0, x1) | _, _ => none
def Sl68c100a (s0 : List Int) (t8_a : Int) (o9000_a : Wm0T21) : TS := ⟨slots 19 [(0, .dv (.sl (.int .i64)) s0), (1, .fn 100 0 1 fun i => ([.ptr 9000 0 []] : List TV).getD i .any), (7, .dv (.int .i64) (s0.length : Int)), (8, .dv (.int .i64) t8_a)], [(9000, .row (.pair (.int .i64) (.pair (.sl (.sl (.int .i64))) (.unit))) o9000_a)]⟩
noncomputable def K68c100_0 (a100c : Wm0T20) (N : Nat) : Kont (Int × List (Int × List (List Int) × Unit)) := kont (E68c100 a100c) lv68c100 N c68c100 [1, 0, 1, 0] (fin TI en68c100 (resOf Try.f68) dec68c100)
noncomputable def R68c100_0 (a100c : Wm0T20) (N : Nat) (m : Nat) : TS → Option (Int × List (Int × List (List Int) × Unit)) := loopK (den (E68c100 a100c) lv68c100 N (sub c68c100 [1, 0, 1, 0, 0])) (TS.norm nm68c100_0) (K68c100_0 a100c N) m
def l68c100a (a100c : Wm0T20) (N : Nat) (s0 : List Int) : Nat → Int → (List (Int × List (List Int) × Unit)) → Option (Int × List (Int × List (List Int) × Unit))
 | 0, _, _ => none
 | n + 1, t8_a, o9000_a => cond (decide (t8_a < (s0.length : Int))) (chk (decide (0 ≤ t8_a ∧ t8_a < (s0.length : Int))) ((a100c (s0.getD t8_a.toNat (0 : Int)) o9000_a).bind fun r1 =>
   cond (r1.1) (some (t8_a, r1.2))
   ((l68c100a a100c N s0 n (w64 (t8_a + (1 : Int))) r1.2))))
   (some ((-1 : Int), o9000_a))
theorem wl68c100a (a100c : Wm0T20) (N : Nat) (s0 : List Int) (m : Nat) (t8_a : Int) (o9000_a : Wm0T21) : R68c100_0 a100c N (m + 1) (Sl68c100a s0 t8_a o9000_a) = cond (decide (t8_a < (s0.length : Int))) (chk (decide (0 ≤ t8_a ∧ t8_a < (s0.length : Int))) ((a100c (s0.getD t8_a.toNat (0 : Int)) o9000_a).bind fun r1 =>
   cond (r1.1) (some (t8_a, r1.2))
   ((R68c100_0 a100c N m (Sl68c100a s0 (w64 (t8_a + (1 : Int))) r1.2)))))
   (some ((-1 : Int), o9000_a)) := by kernel_rfl
theorem ql68c100a (a100c : Wm0T20) (N : Nat) (s0 : List Int) : ∀ (m : Nat) (t8_a : Int) (o9000_a : Wm0T21), R68c100_0 a100c N m (Sl68c100a s0 t8_a o9000_a) = l68c100a a100c N s0 m t8_a o9000_a
        | 0, _, _ => rfl
        | m + 1, t8_a, o9000_a => by rw [wl68c100a]; simp only [l68c100a, ql68c100a a100c N s0 m]
def m68c100 (a100c : Wm0T20) (N : Nat) (s0 : List Int) (p1 : List (Int × List (List Int) × Unit)) : Option (Int × List (Int × List (List Int) × Unit)) :=
   (l68c100a a100c N s0 N (0 : Int) p1)
theorem wm68c100 (a100c : Wm0T20) (N : Nat) (s0 : List Int) (p1 : List (Int × List (List Int) × Unit)) : callF (E68c100 a100c) lv68c100 N en68c100 c68c100 (resOf Try.f68) 17 [.dv (.sl (.int .i64)) s0, .fn 100 0 1 fun i => ([.ptr 9000 0 []] : List TV).getD i .any] [(9000, .row (.pair (.int .i64) (.pair (.sl (.sl (.int .i64))) (.unit))) p1)] dec68c100 = (R68c100_0 a100c N N (Sl68c100a s0 (0 : Int) p1)) := by kernel_rfl
theorem k68c100 (a100c : Wm0T20) (N : Nat) (s0 : List Int) (p1 : List (Int × List (List Int) × Unit)) : callF (E68c100 a100c) lv68c100 N en68c100 c68c100 (resOf Try.f68) 17 [.dv (.sl (.int .i64)) s0, .fn 100 0 1 fun i => ([.ptr 9000 0 []] : List TV).getD i .any] [(9000, .row (.pair (.int .i64) (.pair (.sl (.sl (.int .i64))) (.unit))) p1)] dec68c100 = m68c100 a100c N s0 p1 := by rw [wm68c100]; simp only [m68c100, ql68c100a]
theorem ok68c100 (a100c : Wm0T20) (h100c : FnOk Try.prog 100 (F100c a100c)) (a : (List Int) → (List (Int × List (List Int) × Unit)) → Option (Int × List (Int × List (List Int) × Unit))) (h : ∀ s0 p1 r, a s0 p1 = some r → (∃ N, m68c100 a100c N s0 p1 = some r)) : FnOk Try.prog 68 (F68c100 a) := by
 intro args Of x hx
 simp only [F68c100] at hx
 split at hx
 ·rename_i s0 f_0 p1 heqc
  have hc0 := congrArg (fun c : List (List TV) => c.getD 0 []) heqc
  obtain ⟨N, hN⟩ := h _ _ _ hx
  refine HSpec.etaL (args := [.dv (.sl (.int .i64)) s0, .fn 100 0 1 fun i => ([.ptr 9000 0 []] : List TV).getD i .any]) (O := [(9000, .row (.pair (.int .i64) (.pair (.sl (.sl (.int .i64))) (.unit))) p1)]) ⟨TV.sim_refl _, TV.sim_fn hc0, trivial⟩ ⟨rfl, TO.sim_refl _, trivial⟩ (lifted (L := [(100, F100c a100c)]) (rc := nrc) (fz := nfz) (fn := Try.f68) (by kernel_rfl) (by kernel_rfl) (by kernel_rfl) (by kernel_rfl) rfl ?_ ((k68c100 a100c N _ _).trans hN) ?_)
  ·intro p hp; simp only [List.mem_cons, List.not_mem_nil, or_false] at hp; rcases hp with rfl; exact h100c
  ·intro l o hd
   simp only [dec68c100] at hd
   split at hd
   ·obtain rfl := oij hd; exact ⟨rfl, rfl⟩
   ·cases hd
 ·cases hx
def E33c100 (a68c100 : Wm0T22) : Env := mkE TI TY [(68, F68c100 a68c100)] nrc nfz
noncomputable def c33c100 : Code := bodyOf Try.f33
def lv33c100 : Nat → Option Norm := norms []
def en33c100 : End := ⟨[], ⟨[9], [9000], [], []⟩⟩
def dec33c100 (l : List TV) (o : List (Nat × TO)) : Option (Bool × List (Int × List (List Int) × Unit)) := match l, o with | [.dv (.bool) x0], [(9000, .row (.pair (.int .i64) (.pair (.sl (.sl (.int .i64))) (.unit))) x1)] => some (x0, x1) | _, _ => none
def m33c100 (a68c100 : Wm0T22) (N : Nat) (s0 : List Int) (p1 : List (Int × List (List Int) × Unit)) : Option (Bool × List (Int × List (List Int) × Unit)) :=
   (a68c100 s0 p1).bind fun r1 =>
   some (decide (r1.1 ≥ (0 : Int)), r1.2)
theorem k33c100 (a68c100 : Wm0T22) (N : Nat) (s0 : List Int) (p1 : List (Int × List (List Int) × Unit)) : callF (E33c100 a68c100) lv33c100 N en33c100 c33c100 (resOf Try.f33) 7 [.dv (.sl (.int .i64)) s0, .fn 100 0 1 fun i => ([.ptr 9000 0 []] : List TV).getD i .any] [(9000, .row (.pair (.int .i64) (.pair (.sl (.sl (.int .i64))) (.unit))) p1)] dec33c100 = m33c100 a68c100 N s0 p1 := by kernel_rfl
theorem ok33c100 (a68c100 : Wm0T22) (h68c100 : FnOk Try.prog 68 (F68c100 a68c100)) (a : (List Int) → (List (Int × List (List Int) × Unit)) → Option (Bool × List (Int × List (List Int) × Unit))) (h : ∀ s0 p1 r, a s0 p1 = some r → (∃ N, m33c100 a68c100 N s0 p1 = some r)) : FnOk Try.prog 33 (F33c100 a) := by
 intro args Of x hx
 simp only [F33c100] at hx
 split at hx
 ·rename_i s0 f_0 p1 heqc
  have hc0 := congrArg (fun c : List (List TV) => c.getD 0 []) heqc
  obtain ⟨N, hN⟩ := h _ _ _ hx
  refine HSpec.etaL (args := [.dv (.sl (.int .i64)) s0, .fn 100 0 1 fun i => ([.ptr 9000 0 []] : List TV).getD i .any]) (O := [(9000, .row (.pair (.int .i64) (.pair (.sl (.sl (.int .i64))) (.unit))) p1)]) ⟨TV.sim_refl _, TV.sim_fn hc0, trivial⟩ ⟨rfl, TO.sim_refl _, trivial⟩ (lifted (L := [(68, F68c100 a68c100)]) (rc := nrc) (fz := nfz) (fn := Try.f33) (by kernel_rfl) (by kernel_rfl) (by kernel_rfl) (by kernel_rfl) rfl ?_ ((k33c100 a68c100 N _ _).trans hN) ?_)
  ·intro p hp; simp only [List.mem_cons, List.not_mem_nil, or_false] at hp; rcases hp with rfl; exact h68c100
  ·intro l o hd
   simp only [dec33c100] at hd
   split at hd
   ·obtain rfl := oij hd; exact ⟨rfl, rfl⟩
   ·cases hd
 ·cases hx
def E92 (a33c100 : Wm0T23) (a99 : Wm0T0) : Env := mkE TI TY [(33, F33c100 a33c100), (99, F99 a99)] nrc nfz
noncomputable def c92 : Code := bodyOf Try.f92
def nm92_0 : Norm := ⟨[1, 21, 22, 23], [1], [], []⟩
def lv92 : Nat → Option Norm := norms [(8, nm92_0)]
def en92 : End := ⟨[], ⟨[38], [], [], []⟩⟩
def dec92 (l : List TV) (o : List (Nat × TO)) : Option (Int) := match l, o with | [.dv (.int .i64) x0], [] => some (x0) | _, _ => none
def Sl92a (p0 : Int × List (List Int) × Unit) (t23_a : Int) (o1_a : Wm0T21) : TS := ⟨slots 38 [(1, .ptr 1 0 []), (21, .dv (.sl (.sl (.int .i64))) p0.2.1), (22, .dv (.int .i64) (p0.2.1.length : Int)), (23, .dv (.int .i64) t23_a)], [(1, .row (.pair (.int .i64) (.pair (.sl (.sl (.int .i64))) (.unit))) o1_a)]⟩
noncomputable def K92_0 (a33c100 : Wm0T23) (a99 : Wm0T0) (N : Nat) : Kont (Int) := kont (E92 a33c100 a99) lv92 N c92 [1, 1, 0, 1, 0] (fin TI en92 (resOf Try.f92) dec92)
noncomputable def R92_0 (a33c100 : Wm0T23) (a99 : Wm0T0) (N : Nat) (m : Nat) : TS → Option (Int) := loopK (den (E92 a33c100 a99) lv92 N (sub c92 [1, 1, 0, 1, 0, 0])) (TS.norm nm92_0) (K92_0 a33c100 a99 N) m
def l92a (a33c100 : Wm0T23) (a99 : Wm0T0) (N : Nat) (p0 : Int × List (List Int) × Unit) : Nat → Int → (List (Int × List (List Int) × Unit)) → Option (Int)
 | 0, _, _ => none
 | n + 1, t23_a, o1_a => cond (decide (t23_a < (p0.2.1.length : Int))) (chk (decide (0 ≤ t23_a ∧ t23_a < (p0.2.1.length : Int))) (cond (((p0.2.1.getD t23_a.toNat ([] : List Int)).length : Int) != ((o1_a.getD 0 ((0 : Int), (([] : List (List Int)), ()))).1)) (some (3 : Int))
   ((a33c100 (p0.2.1.getD t23_a.toNat ([] : List Int)) o1_a).bind fun r2 =>
   cond (r2.1) (some (4 : Int))
   ((l92a a33c100 a99 N p0 n (w64 (t23_a + (1 : Int))) r2.2)))))
   (some (0 : Int))
theorem wl92a (a33c100 : Wm0T23) (a99 : Wm0T0) (N : Nat) (p0 : Int × List (List Int) × Unit) (m : Nat) (t23_a : Int) (o1_a : Wm0T21) : R92_0 a33c100 a99 N (m + 1) (Sl92a p0 t23_a o1_a) = cond (decide (t23_a < (p0.2.1.length : Int))) (chk (decide (0 ≤ t23_a ∧ t23_a < (p0.2.1.length : Int))) (cond (((p0.2.1.getD t23_a.toNat ([] : List Int)).length : Int) != ((o1_a.getD 0 ((0 : Int), (([] : List (List Int)), ()))).1)) (some (3 : Int))
   ((a33c100 (p0.2.1.getD t23_a.toNat ([] : List Int)) o1_a).bind fun r2 =>
   cond (r2.1) (some (4 : Int))
   ((R92_0 a33c100 a99 N m (Sl92a p0 (w64 (t23_a + (1 : Int))) r2.2))))))
   (some (0 : Int)) := by kernel_rfl
theorem ql92a (a33c100 : Wm0T23) (a99 : Wm0T0) (N : Nat) (p0 : Int × List (List Int) × Unit) : ∀ (m : Nat) (t23_a : Int) (o1_a : Wm0T21), R92_0 a33c100 a99 N m (Sl92a p0 t23_a o1_a) = l92a a33c100 a99 N p0 m t23_a o1_a
        | 0, _, _ => rfl
        | m + 1, t23_a, o1_a => by rw [wl92a]; simp only [l92a, ql92a a33c100 a99 N p0 m]
def m92 (a33c100 : Wm0T23) (a99 : Wm0T0) (N : Nat) (p0 : Int × List (List Int) × Unit) : Option (Int) :=
   (a99 (2 : Int) p0.1 (7 : Int)).bind fun r1 =>
   cond (!r1) (some (4 : Int))
   (cond ((p0.2.1.length : Int) == (0 : Int)) (some (1 : Int))
   (cond (decide ((p0.2.1.length : Int) > (6 : Int))) (some (2 : Int))
   ((l92a a33c100 a99 N p0 N (0 : Int) ([p0] : List (Int × List (List Int) × Unit))))))
theorem wm92 (a33c100 : Wm0T23) (a99 : Wm0T0) (N : Nat) (p0 : Int × List (List Int) × Unit) : callF (E92 a33c100 a99) lv92 N en92 c92 (resOf Try.f92) 37 [.dv (.pair (.int .i64) (.pair (.sl (.sl (.int .i64))) (.unit))) p0] [] dec92 = (a99 (2 : Int) p0.1 (7 : Int)).bind fun r1 =>
   cond (!r1) (some (4 : Int))
   (cond ((p0.2.1.length : Int) == (0 : Int)) (some (1 : Int))
   (cond (decide ((p0.2.1.length : Int) > (6 : Int))) (some (2 : Int))
   ((R92_0 a33c100 a99 N N (Sl92a p0 (0 : Int) ([p0] : List (Int × List (List Int) × Unit))))))) := by kernel_rfl
theorem k92 (a33c100 : Wm0T23) (a99 : Wm0T0) (N : Nat) (p0 : Int × List (List Int) × Unit) : callF (E92 a33c100 a99) lv92 N en92 c92 (resOf Try.f92) 37 [.dv (.pair (.int .i64) (.pair (.sl (.sl (.int .i64))) (.unit))) p0] [] dec92 = m92 a33c100 a99 N p0 := by rw [wm92]; simp only [m92, ql92a]
theorem ok92 (a33c100 : Wm0T23) (a99 : Wm0T0) (h33c100 : FnOk Try.prog 33 (F33c100 a33c100)) (h99 : FnOk Try.prog 99 (F99 a99)) (a : (Int × List (List Int) × Unit) → Option (Int)) (h : ∀ p0 r, a p0 = some r → (∃ N, m92 a33c100 a99 N p0 = some r)) : FnOk Try.prog 92 (F92 a) := by
 intro args Of x hx
 simp only [F92] at hx
 split at hx
 ·rename_i p0
  obtain ⟨N, hN⟩ := h _ _ hx
  refine lifted (L := [(33, F33c100 a33c100), (99, F99 a99)]) (rc := nrc) (fz := nfz) (fn := Try.f92) (by kernel_rfl) (by kernel_rfl) (by kernel_rfl) (by kernel_rfl) rfl ?_ ((k92 a33c100 a99 N _).trans hN) ?_
  ·intro p hp; simp only [List.mem_cons, List.not_mem_nil, or_false] at hp; rcases hp with rfl | rfl
   ·exact h33c100
   ·exact h99
  ·intro l o hd
   simp only [dec92] at hd
   split at hd
   ·obtain rfl := oij hd; exact ⟨rfl, rfl⟩
   ·cases hd
 ·cases hx
def E93 (a99 : Wm0T0) : Env := mkE TI TY [(99, F99 a99)] nrc nfz
noncomputable def c93 : Code := bodyOf Try.f93
def nm93_0 : Norm := ⟨[2, 6, 7, 10, 11, 12], [2], [], []⟩
def lv93 : Nat → Option Norm := norms [(4, nm93_0)]
def en93 : End := ⟨[], ⟨[34, 35], [], [], []⟩⟩
def dec93 (l : List TV) (o : List (Nat × TO)) : Option (Int × Int) := match l, o with | [.dv (.int .u8) x0, .dv (.int .i64) x1], [] => some (x0, x1) | _, _ => none
def Sl93a (p0 : Int × List (List Int) × Unit) (lx1 : List Int) (out6_a : Int) (last7_a : Int) (t12_a : Int) : TS := ⟨slots 34 [(2, .ptr 2 0 []), (6, .dv (.int .u8) out6_a), (7, .dv (.int .i64) last7_a), (10, .dv (.sl (.int .i64)) lx1), (11, .dv (.int .i64) (lx1.length : Int)), (12, .dv (.int .i64) t12_a)], [(2, .row (.pair (.int .i64) (.pair (.sl (.sl (.int .i64))) (.unit))) ([p0] : List (Int × List (List Int) × Unit)))]⟩
noncomputable def K93_0 (a99 : Wm0T0) (N : Nat) : Kont (Int × Int) := kont (E93 a99) lv93 N c93 [1, 1, 1, 0, 1, 0] (fin TI en93 (resOf Try.f93) dec93)
noncomputable def R93_0 (a99 : Wm0T0) (N : Nat) (m : Nat) : TS → Option (Int × Int) := loopK (den (E93 a99) lv93 N (sub c93 [1, 1, 1, 0, 1, 0, 0])) (TS.norm nm93_0) (K93_0 a99 N) m
def l93a (a99 : Wm0T0) (N : Nat) (p0 : Int × List (List Int) × Unit) (lx1 : List Int) : Nat → Int → Int → Int → Option (Int × Int)
 | 0, _, _, _ => none
 | n + 1, out6_a, last7_a, t12_a => cond (decide (t12_a < (lx1.length : Int))) (chk (decide (0 ≤ t12_a ∧ t12_a < (lx1.length : Int))) ((a99 (0 : Int) (lx1.getD t12_a.toNat (0 : Int)) (w64 (p0.1 - (1 : Int)))).bind fun r1 =>
   cond (!r1) (some ((0 : Int), (5 : Int)))
   (cond (decide ((lx1.getD t12_a.toNat (0 : Int)) ≤ last7_a)) (some ((0 : Int), (7 : Int)))
   (chk (decide (0 ≤ lx1.getD t12_a.toNat (0 : Int))) ((l93a a99 N p0 lx1 n (bOr .u8 out6_a (IntKind.wrap .u8 ((1 : Int) * 2 ^ min (Int.toNat (lx1.getD t12_a.toNat (0 : Int))) 8))) (lx1.getD t12_a.toNat (0 : Int)) (w64 (t12_a + (1 : Int)))))))))
   (some (out6_a, (0 : Int)))
theorem wl93a (a99 : Wm0T0) (N : Nat) (p0 : Int × List (List Int) × Unit) (lx1 : List Int) (m : Nat) (out6_a : Int) (last7_a : Int) (t12_a : Int) : R93_0 a99 N (m + 1) (Sl93a p0 lx1 out6_a last7_a t12_a) = cond (decide (t12_a < (lx1.length : Int))) (chk (decide (0 ≤ t12_a ∧ t12_a < (lx1.length : Int))) ((a99 (0 : Int) (lx1.getD t12_a.toNat (0 : Int)) (w64 (p0.1 - (1 : Int)))).bind fun r1 =>
   cond (!r1) (some ((0 : Int), (5 : Int)))
   (cond (decide ((lx1.getD t12_a.toNat (0 : Int)) ≤ last7_a)) (some ((0 : Int), (7 : Int)))
   (chk (decide (0 ≤ lx1.getD t12_a.toNat (0 : Int))) ((R93_0 a99 N m (Sl93a p0 lx1 (bOr .u8 out6_a (IntKind.wrap .u8 ((1 : Int) * 2 ^ min (Int.toNat (lx1.getD t12_a.toNat (0 : Int))) 8))) (lx1.getD t12_a.toNat (0 : Int)) (w64 (t12_a + (1 : Int))))))))))
   (some (out6_a, (0 : Int))) := by kernel_rfl
theorem ql93a (a99 : Wm0T0) (N : Nat) (p0 : Int × List (List Int) × Unit) (lx1 : List Int) : ∀ (m : Nat) (out6_a : Int) (last7_a : Int) (t12_a : Int), R93_0 a99 N m (Sl93a p0 lx1 out6_a last7_a t12_a) = l93a a99 N p0 lx1 m out6_a last7_a t12_a
        | 0, _, _, _ => rfl
        | m + 1, out6_a, last7_a, t12_a => by rw [wl93a]; simp only [l93a, ql93a a99 N p0 lx1 m]
def m93 (a99 : Wm0T0) (N : Nat) (p0 : Int × List (List Int) × Unit) (lx1 : List Int) : Option (Int × Int) :=
   (l93a a99 N p0 lx1 N (0 : Int) (-1 : Int) (0 : Int))
theorem wm93 (a99 : Wm0T0) (N : Nat) (p0 : Int × List (List Int) × Unit) (lx1 : List Int) : callF (E93 a99) lv93 N en93 c93 (resOf Try.f93) 32 [.dv (.pair (.int .i64) (.pair (.sl (.sl (.int .i64))) (.unit))) p0, .dv (.sl (.int .i64)) lx1] [] dec93 = (R93_0 a99 N N (Sl93a p0 lx1 (0 : Int) (-1 : Int) (0 : Int))) := by kernel_rfl
theorem k93 (a99 : Wm0T0) (N : Nat) (p0 : Int × List (List Int) × Unit) (lx1 : List Int) : callF (E93 a99) lv93 N en93 c93 (resOf Try.f93) 32 [.dv (.pair (.int .i64) (.pair (.sl (.sl (.int .i64))) (.unit))) p0, .dv (.sl (.int .i64)) lx1] [] dec93 = m93 a99 N p0 lx1 := by rw [wm93]; simp only [m93, ql93a]
theorem ok93 (a99 : Wm0T0) (h99 : FnOk Try.prog 99 (F99 a99)) (a : (Int × List (List Int) × Unit) → (List Int) → Option (Int × Int)) (h : ∀ p0 lx1 r, a p0 lx1 = some r → (∃ N, m93 a99 N p0 lx1 = some r)) : FnOk Try.prog 93 (F93 a) := by
 intro args Of x hx
 simp only [F93] at hx
 split at hx
 ·rename_i p0 lx1
  obtain ⟨N, hN⟩ := h _ _ _ hx
  refine lifted (L := [(99, F99 a99)]) (rc := nrc) (fz := nfz) (fn := Try.f93) (by kernel_rfl) (by kernel_rfl) (by kernel_rfl) (by kernel_rfl) rfl ?_ ((k93 a99 N _ _).trans hN) ?_
  ·intro p hp; simp only [List.mem_cons, List.not_mem_nil, or_false] at hp; rcases hp with rfl; exact h99
  ·intro l o hd
   simp only [dec93] at hd
   split at hd
   ·obtain rfl := oij hd; exact ⟨rfl, rfl⟩
   ·cases hd
 ·cases hx
def E105 : Env := mkE TI TY [] nrc nfz
noncomputable def c105 : Code := bodyOf Try.f105
def lv105 : Nat → Option Norm := norms []
def en105 : End := ⟨[], ⟨[6], [], [], []⟩⟩
def dec105 (l : List TV) (o : List (Nat × TO)) : Option (Int) := match l, o with | [.dv (.int .i64) x0], [] => some (x0) | _, _ => none
def m105 (N : Nat) (o0 : Int) (t1 : Int) : Option (Int) :=
   some o0
theorem k105 (N : Nat) (o0 : Int) (t1 : Int) : callF (E105) lv105 N en105 c105 (resOf Try.f105) 4 [.dv (.int .i64) o0, .dv (.int .i64) t1] [] dec105 = m105 N o0 t1 := by kernel_rfl
theorem ok105 (a : Int → Int → Option (Int)) (h : ∀ o0 t1 r, a o0 t1 = some r → (∃ N, m105 N o0 t1 = some r)) : FnOk Try.prog 105 (F105 a) := by
 intro args Of x hx
 simp only [F105] at hx
 split at hx
 ·rename_i o0 t1
  obtain ⟨N, hN⟩ := h _ _ _ hx
  refine lifted (L := []) (rc := nrc) (fz := nfz) (fn := Try.f105) (by kernel_rfl) (by kernel_rfl) (by kernel_rfl) (by kernel_rfl) rfl ?_ ((k105 N _ _).trans hN) ?_
  ·intro p hp; cases hp
  ·intro l o hd
   simp only [dec105] at hd
   split at hd
   ·obtain rfl := oij hd; exact ⟨rfl, rfl⟩
   ·cases hd
 ·cases hx
def E108 : Env := mkE TI TY [] nrc nfz
noncomputable def c108 : Code := bodyOf Try.f108
def lv108 : Nat → Option Norm := norms []
def en108 : End := ⟨[], ⟨[10], [], [], []⟩⟩
def dec108 (l : List TV) (o : List (Nat × TO)) : Option (Bool) := match l, o with | [.dv (.bool) x0], [] => some (x0) | _, _ => none
def m108 (N : Nat) (s0 : Int) (colour1 : Int) : Option (Bool) :=
   chk (decide (0 ≤ colour1)) (some ((bAnd .u8 (Int.fdiv s0 (2 ^ min (Int.toNat colour1) 8)) (1 : Int)) == (1 : Int)))
theorem k108 (N : Nat) (s0 : Int) (colour1 : Int) : callF (E108) lv108 N en108 c108 (resOf Try.f108) 8 [.dv (.int .u8) s0, .dv (.int .i64) colour1] [] dec108 = m108 N s0 colour1 := by kernel_rfl
theorem ok108 (a : Int → Int → Option (Bool)) (h : ∀ s0 colour1 r, a s0 colour1 = some r → (∃ N, m108 N s0 colour1 = some r)) : FnOk Try.prog 108 (F108 a) := by
 intro args Of x hx
 simp only [F108] at hx
 split at hx
 ·rename_i s0 colour1
  obtain ⟨N, hN⟩ := h _ _ _ hx
  refine lifted (L := []) (rc := nrc) (fz := nfz) (fn := Try.f108) (by kernel_rfl) (by kernel_rfl) (by kernel_rfl) (by kernel_rfl) rfl ?_ ((k108 N _ _).trans hN) ?_
  ·intro p hp; cases hp
  ·intro l o hd
   simp only [dec108] at hd
   split at hd
   ·obtain rfl := oij hd; exact ⟨rfl, rfl⟩
   ·cases hd
 ·cases hx
def E106 (a108 : Wm0T24) : Env := mkE TI TY [(108, F108 a108)] nrc nfz
noncomputable def c106 : Code := bodyOf Try.f106
def nm106_0 : Norm := ⟨[4, 8], [], [(.slot 3, 1003, .int .i64)], []⟩
def lv106 : Nat → Option Norm := norms [(4, nm106_0)]
def en106 : End := ⟨[(20, .sl (.int .i64))], ⟨[20], [], [], []⟩⟩
def dec106 (l : List TV) (o : List (Nat × TO)) : Option (List Int) := match l, o with | [.dv (.sl (.int .i64)) x0], [] => some (x0) | _, _ => none
def Sl106a (s0 : Int) (t8_a : Int) (out3_a : List Int) : TS := ⟨slots 20 [(3, .row 1003), (4, .fn 108 1 0 fun i => ([.dv (.int .u8) s0] : List TV).getD i .any), (8, .dv (.int .i64) t8_a)], [(1003, .row (.int .i64) out3_a)]⟩
noncomputable def K106_0 (a108 : Wm0T24) (N : Nat) : Kont (List Int) := kont (E106 a108) lv106 N c106 [1, 1, 1, 0, 1, 0] (fin TI en106 (resOf Try.f106) dec106)
noncomputable def R106_0 (a108 : Wm0T24) (N : Nat) (m : Nat) : TS → Option (List Int) := loopK (den (E106 a108) lv106 N (sub c106 [1, 1, 1, 0, 1, 0, 0])) (TS.norm nm106_0) (K106_0 a108 N) m
def l106a (a108 : Wm0T24) (N : Nat) (s0 : Int) : Nat → Int → (List Int) → Option (List Int)
 | 0, _, _ => none
 | n + 1, t8_a, out3_a => cond (decide (t8_a < (7 : Int))) ((a108 s0 t8_a).bind fun r1 =>
   cond (r1) (chk (small (out3_a.length + 1) 8) ((l106a a108 N s0 n (w64 (t8_a + (1 : Int))) (out3_a ++ ([t8_a] : List Int)))))
   ((l106a a108 N s0 n (w64 (t8_a + (1 : Int))) out3_a)))
   (some out3_a)
theorem wl106a (a108 : Wm0T24) (N : Nat) (s0 : Int) (m : Nat) (t8_a : Int) (out3_a : List Int) : R106_0 a108 N (m + 1) (Sl106a s0 t8_a out3_a) = cond (decide (t8_a < (7 : Int))) ((a108 s0 t8_a).bind fun r1 =>
   cond (r1) (chk (small (out3_a.length + 1) 8) ((R106_0 a108 N m (Sl106a s0 (w64 (t8_a + (1 : Int))) (out3_a ++ ([t8_a] : List Int))))))
   ((R106_0 a108 N m (Sl106a s0 (w64 (t8_a + (1 : Int))) out3_a))))
   (some out3_a) := by kernel_rfl
theorem ql106a (a108 : Wm0T24) (N : Nat) (s0 : Int) : ∀ (m : Nat) (t8_a : Int) (out3_a : List Int), R106_0 a108 N m (Sl106a s0 t8_a out3_a) = l106a a108 N s0 m t8_a out3_a
        | 0, _, _ => rfl
        | m + 1, t8_a, out3_a => by rw [wl106a]; simp only [l106a, ql106a a108 N s0 m]
def m106 (a108 : Wm0T24) (N : Nat) (s0 : Int) : Option (List Int) :=
   (l106a a108 N s0 N (0 : Int) ([] : List Int))
theorem wm106 (a108 : Wm0T24) (N : Nat) (s0 : Int) : callF (E106 a108) lv106 N en106 c106 (resOf Try.f106) 19 [.dv (.int .u8) s0] [] dec106 = (R106_0 a108 N N (Sl106a s0 (0 : Int) ([] : List Int))) := by kernel_rfl
theorem k106 (a108 : Wm0T24) (N : Nat) (s0 : Int) : callF (E106 a108) lv106 N en106 c106 (resOf Try.f106) 19 [.dv (.int .u8) s0] [] dec106 = m106 a108 N s0 := by rw [wm106]; simp only [m106, ql106a]
theorem ok106 (a108 : Wm0T24) (h108 : FnOk Try.prog 108 (F108 a108)) (a : Int → Option (List Int)) (h : ∀ s0 r, a s0 = some r → (∃ N, m106 a108 N s0 = some r)) : FnOk Try.prog 106 (F106 a) := by
 intro args Of x hx
 simp only [F106] at hx
 split at hx
 ·rename_i s0
  obtain ⟨N, hN⟩ := h _ _ hx
  refine lifted (L := [(108, F108 a108)]) (rc := nrc) (fz := nfz) (fn := Try.f106) (by kernel_rfl) (by kernel_rfl) (by kernel_rfl) (by kernel_rfl) rfl ?_ ((k106 a108 N _).trans hN) ?_
  ·intro p hp; simp only [List.mem_cons, List.not_mem_nil, or_false] at hp; rcases hp with rfl; exact h108
  ·intro l o hd
   simp only [dec106] at hd
   split at hd
   ·obtain rfl := oij hd; exact ⟨rfl, rfl⟩
   ·cases hd
 ·cases hx
def E124 : Env := mkE TI TY [] nrc nfz
noncomputable def c124 : Code := bodyOf Try.f124
def lv124 : Nat → Option Norm := norms []
def en124 : End := ⟨[], ⟨[9], [], [], []⟩⟩
def dec124 (l : List TV) (o : List (Nat × TO)) : Option (Int) := match l, o with | [.dv (.int .i64) x0], [] => some (x0) | _, _ => none
def m124 (N : Nat) (cx0 : List Int) (colour1 : Int) : Option (Int) :=
   chk (decide (0 ≤ colour1 ∧ colour1 < (cx0.length : Int))) (some (cx0.getD colour1.toNat (0 : Int)))
theorem k124 (N : Nat) (cx0 : List Int) (colour1 : Int) : callF (E124) lv124 N en124 c124 (resOf Try.f124) 7 [.dv (.sl (.int .i64)) cx0, .dv (.int .i64) colour1] [] dec124 = m124 N cx0 colour1 := by kernel_rfl
theorem ok124 (a : (List Int) → Int → Option (Int)) (h : ∀ cx0 colour1 r, a cx0 colour1 = some r → (∃ N, m124 N cx0 colour1 = some r)) : FnOk Try.prog 124 (F124 a) := by
 intro args Of x hx
 simp only [F124] at hx
 split at hx
 ·rename_i cx0 colour1
  obtain ⟨N, hN⟩ := h _ _ _ hx
  refine lifted (L := []) (rc := nrc) (fz := nfz) (fn := Try.f124) (by kernel_rfl) (by kernel_rfl) (by kernel_rfl) (by kernel_rfl) rfl ?_ ((k124 N _ _).trans hN) ?_
  ·intro p hp; cases hp
  ·intro l o hd
   simp only [dec124] at hd
   split at hd
   ·obtain rfl := oij hd; exact ⟨rfl, rfl⟩
   ·cases hd
 ·cases hx
def E101 (a105 : Wm0T19) (a106 : Wm0T8) (a124 : Wm0T18) : Env := mkE TI TY [(105, F105 a105), (106, F106 a106), (124, F124 a124)] nrc nfz
noncomputable def c101 : Code := bodyOf Try.f101
def nm101_0 : Norm := ⟨[6, 7, 13, 14, 15], [], [], []⟩
def lv101 : Nat → Option Norm := norms [(5, nm101_0)]
def en101 : End := ⟨[], ⟨[35], [], [], []⟩⟩
def dec101 (l : List TV) (o : List (Nat × TO)) : Option (Int) := match l, o with | [.dv (.int .u8) x0], [] => some (x0) | _, _ => none
def Sl101a (kx1 : Int ⊕ ((List Int) ⊕ Unit)) (r2 : List Int) (out7_a : Int) (t15_a : Int) : TS := ⟨slots 35 [(6, .dv (.ifc 151 (.int .i64) (.ifc 153 (.sl (.int .i64)) (.ifn))) kx1), (7, .dv (.int .u8) out7_a), (13, .dv (.sl (.int .i64)) r2), (14, .dv (.int .i64) (r2.length : Int)), (15, .dv (.int .i64) t15_a)], []⟩
noncomputable def K101_0 (a105 : Wm0T19) (a106 : Wm0T8) (a124 : Wm0T18) (N : Nat) : Kont (Int) := kont (E101 a105 a106 a124) lv101 N c101 [1, 1, 0, 1, 1, 1, 1, 0, 1, 0] (fin TI en101 (resOf Try.f101) dec101)
noncomputable def R101_0 (a105 : Wm0T19) (a106 : Wm0T8) (a124 : Wm0T18) (N : Nat) (m : Nat) : TS → Option (Int) := loopK (den (E101 a105 a106 a124) lv101 N (sub c101 [1, 1, 0, 1, 1, 1, 1, 0, 1, 0, 0])) (TS.norm nm101_0) (K101_0 a105 a106 a124 N) m
def l101a (a105 : Wm0T19) (a106 : Wm0T8) (a124 : Wm0T18) (N : Nat) (kx1 : Int ⊕ ((List Int) ⊕ Unit)) (r2 : List Int) : Nat → Int → Int → Option (Int)
 | 0, _, _ => none
 | n + 1, out7_a, t15_a => cond (decide (t15_a < (r2.length : Int))) (chk (decide (0 ≤ t15_a ∧ t15_a < (r2.length : Int))) (ifElim kx1 (fun h3 =>
   (a105 h3 (r2.getD t15_a.toNat (0 : Int))).bind fun r5 =>
   chk (decide (0 ≤ r5)) ((l101a a105 a106 a124 N kx1 r2 n (bOr .u8 out7_a (IntKind.wrap .u8 ((1 : Int) * 2 ^ min (Int.toNat r5) 8))) (w64 (t15_a + (1 : Int)))))) (fun g4 =>
   ifElim g4 (fun h6 =>
   (a124 h6 (r2.getD t15_a.toNat (0 : Int))).bind fun r8 =>
   chk (decide (0 ≤ r8)) ((l101a a105 a106 a124 N kx1 r2 n (bOr .u8 out7_a (IntKind.wrap .u8 ((1 : Int) * 2 ^ min (Int.toNat r8) 8))) (w64 (t15_a + (1 : Int)))))) (fun g7 =>
   none))))
   (some out7_a)
theorem wl101a (a105 : Wm0T19) (a106 : Wm0T8) (a124 : Wm0T18) (N : Nat) (kx1 : Int ⊕ ((List Int) ⊕ Unit)) (r2 : List Int) (m : Nat) (out7_a : Int) (t15_a : Int) : R101_0 a105 a106 a124 N (m + 1) (Sl101a kx1 r2 out7_a t15_a) = cond (decide (t15_a < (r2.length : Int))) (chk (decide (0 ≤ t15_a ∧ t15_a < (r2.length : Int))) (ifElim kx1 (fun h3 =>
   (a105 h3 (r2.getD t15_a.toNat (0 : Int))).bind fun r5 =>
   chk (decide (0 ≤ r5)) ((R101_0 a105 a106 a124 N m (Sl101a kx1 r2 (bOr .u8 out7_a (IntKind.wrap .u8 ((1 : Int) * 2 ^ min (Int.toNat r5) 8))) (w64 (t15_a + (1 : Int))))))) (fun g4 =>
   ifElim g4 (fun h6 =>
   (a124 h6 (r2.getD t15_a.toNat (0 : Int))).bind fun r8 =>
   chk (decide (0 ≤ r8)) ((R101_0 a105 a106 a124 N m (Sl101a kx1 r2 (bOr .u8 out7_a (IntKind.wrap .u8 ((1 : Int) * 2 ^ min (Int.toNat r8) 8))) (w64 (t15_a + (1 : Int))))))) (fun g7 =>
   none))))
   (some out7_a) := by kernel_rfl
theorem ql101a (a105 : Wm0T19) (a106 : Wm0T8) (a124 : Wm0T18) (N : Nat) (kx1 : Int ⊕ ((List Int) ⊕ Unit)) (r2 : List Int) : ∀ (m : Nat) (out7_a : Int) (t15_a : Int), R101_0 a105 a106 a124 N m (Sl101a kx1 r2 out7_a t15_a) = l101a a105 a106 a124 N kx1 r2 m out7_a t15_a
        | 0, _, _ => rfl
        | m + 1, out7_a, t15_a => by rw [wl101a]; simp only [l101a, ql101a a105 a106 a124 N kx1 r2 m]
def m101 (a105 : Wm0T19) (a106 : Wm0T8) (a124 : Wm0T18) (N : Nat) (s0 : Int) (kx1 : Int ⊕ ((List Int) ⊕ Unit)) : Option (Int) :=
   cond ((inL kx1).isSome) ((a105 ((inL kx1).getD (0 : Int)) (0 : Int)).bind fun r1 =>
   chk (decide (0 ≤ r1)) (some (bOr .u8 s0 (IntKind.wrap .u8 ((1 : Int) * 2 ^ min (Int.toNat r1) 8)))))
   ((a106 s0).bind fun r2 =>
   (l101a a105 a106 a124 N kx1 r2 N s0 (0 : Int)))
theorem wm101 (a105 : Wm0T19) (a106 : Wm0T8) (a124 : Wm0T18) (N : Nat) (s0 : Int) (kx1 : Int ⊕ ((List Int) ⊕ Unit)) : callF (E101 a105 a106 a124) lv101 N en101 c101 (resOf Try.f101) 33 [.dv (.int .u8) s0, .dv (.ifc 151 (.int .i64) (.ifc 153 (.sl (.int .i64)) (.ifn))) kx1] [] dec101 = cond ((inL kx1).isSome) ((a105 ((inL kx1).getD (0 : Int)) (0 : Int)).bind fun r1 =>
   chk (decide (0 ≤ r1)) (some (bOr .u8 s0 (IntKind.wrap .u8 ((1 : Int) * 2 ^ min (Int.toNat r1) 8)))))
   ((a106 s0).bind fun r2 =>
   (R101_0 a105 a106 a124 N N (Sl101a kx1 r2 s0 (0 : Int)))) := by kernel_rfl
theorem k101 (a105 : Wm0T19) (a106 : Wm0T8) (a124 : Wm0T18) (N : Nat) (s0 : Int) (kx1 : Int ⊕ ((List Int) ⊕ Unit)) : callF (E101 a105 a106 a124) lv101 N en101 c101 (resOf Try.f101) 33 [.dv (.int .u8) s0, .dv (.ifc 151 (.int .i64) (.ifc 153 (.sl (.int .i64)) (.ifn))) kx1] [] dec101 = m101 a105 a106 a124 N s0 kx1 := by rw [wm101]; simp only [m101, ql101a]
theorem ok101 (a105 : Wm0T19) (a106 : Wm0T8) (a124 : Wm0T18) (h105 : FnOk Try.prog 105 (F105 a105)) (h106 : FnOk Try.prog 106 (F106 a106)) (h124 : FnOk Try.prog 124 (F124 a124)) (a : Int → (Int ⊕ ((List Int) ⊕ Unit)) → Option (Int)) (h : ∀ s0 kx1 r, a s0 kx1 = some r → (∃ N, m101 a105 a106 a124 N s0 kx1 = some r)) : FnOk Try.prog 101 (F101 a) := by
 intro args Of x hx
 simp only [F101] at hx
 split at hx
 ·rename_i s0 kx1
  obtain ⟨N, hN⟩ := h _ _ _ hx
  refine lifted (L := [(105, F105 a105), (106, F106 a106), (124, F124 a124)]) (rc := nrc) (fz := nfz) (fn := Try.f101) (by kernel_rfl) (by kernel_rfl) (by kernel_rfl) (by kernel_rfl) rfl ?_ ((k101 a105 a106 a124 N _ _).trans hN) ?_
  ·intro p hp; simp only [List.mem_cons, List.not_mem_nil, or_false] at hp; rcases hp with rfl | rfl | rfl
   ·exact h105
   ·exact h106
   ·exact h124
  ·intro l o hd
   simp only [dec101] at hd
   split at hd
   ·obtain rfl := oij hd; exact ⟨rfl, rfl⟩
   ·cases hd
 ·cases hx
def E107 : Env := mkE TI TY [] nrc nfz
noncomputable def c107 : Code := bodyOf Try.f107
def nm107_0 : Norm := ⟨[0, 3, 4], [], [], []⟩
def lv107 : Nat → Option Norm := norms [(5, nm107_0)]
def en107 : End := ⟨[], ⟨[25], [], [], []⟩⟩
def dec107 (l : List TV) (o : List (Nat × TO)) : Option (Int) := match l, o with | [.dv (.int .i64) x0], [] => some (x0) | _, _ => none
def Sl107a (x0 : List Int) (m3_a : Int) (i4_a : Int) : TS := ⟨slots 25 [(0, .dv (.sl (.int .i64)) x0), (3, .dv (.int .i64) m3_a), (4, .dv (.int .i64) i4_a)], []⟩
noncomputable def K107_0 (N : Nat) : Kont (Int) := kont (E107) lv107 N c107 [1, 1, 1, 0, 1, 0] (fin TI en107 (resOf Try.f107) dec107)
noncomputable def R107_0 (N : Nat) (m : Nat) : TS → Option (Int) := loopK (den (E107) lv107 N (sub c107 [1, 1, 1, 0, 1, 0, 0])) (TS.norm nm107_0) (K107_0 N) m
def l107a (N : Nat) (x0 : List Int) : Nat → Int → Int → Option (Int)
 | 0, _, _ => none
 | n + 1, m3_a, i4_a => cond (decide (i4_a < (x0.length : Int))) (chk (decide (0 ≤ i4_a ∧ i4_a < (x0.length : Int))) ((l107a N x0 n (imin m3_a (x0.getD i4_a.toNat (0 : Int))) (w64 (i4_a + (1 : Int))))))
   (some m3_a)
theorem wl107a (N : Nat) (x0 : List Int) (m : Nat) (m3_a : Int) (i4_a : Int) : R107_0 N (m + 1) (Sl107a x0 m3_a i4_a) = cond (decide (i4_a < (x0.length : Int))) (chk (decide (0 ≤ i4_a ∧ i4_a < (x0.length : Int))) ((R107_0 N m (Sl107a x0 (imin m3_a (x0.getD i4_a.toNat (0 : Int))) (w64 (i4_a + (1 : Int)))))))
   (some m3_a) := by kernel_rfl
theorem ql107a (N : Nat) (x0 : List Int) : ∀ (m : Nat) (m3_a : Int) (i4_a : Int), R107_0 N m (Sl107a x0 m3_a i4_a) = l107a N x0 m m3_a i4_a
        | 0, _, _ => rfl
        | m + 1, m3_a, i4_a => by rw [wl107a]; simp only [l107a, ql107a N x0 m]
def m107 (N : Nat) (x0 : List Int) : Option (Int) :=
   cond (decide ((x0.length : Int) < (1 : Int))) (none)
   (chk (decide (0 ≤ (0 : Int) ∧ (0 : Int) < (x0.length : Int))) ((l107a N x0 N (x0.getD 0 (0 : Int)) (1 : Int))))
theorem wm107 (N : Nat) (x0 : List Int) : callF (E107) lv107 N en107 c107 (resOf Try.f107) 24 [.dv (.sl (.int .i64)) x0] [] dec107 = cond (decide ((x0.length : Int) < (1 : Int))) (none)
   (chk (decide (0 ≤ (0 : Int) ∧ (0 : Int) < (x0.length : Int))) ((R107_0 N N (Sl107a x0 (x0.getD 0 (0 : Int)) (1 : Int))))) := by kernel_rfl
theorem k107 (N : Nat) (x0 : List Int) : callF (E107) lv107 N en107 c107 (resOf Try.f107) 24 [.dv (.sl (.int .i64)) x0] [] dec107 = m107 N x0 := by rw [wm107]; simp only [m107, ql107a]
theorem ok107 (a : (List Int) → Option (Int)) (h : ∀ x0 r, a x0 = some r → (∃ N, m107 N x0 = some r)) : FnOk Try.prog 107 (F107 a) := by
 intro args Of x hx
 simp only [F107] at hx
 split at hx
 ·rename_i x0
  obtain ⟨N, hN⟩ := h _ _ hx
  refine lifted (L := []) (rc := nrc) (fz := nfz) (fn := Try.f107) (by kernel_rfl) (by kernel_rfl) (by kernel_rfl) (by kernel_rfl) rfl ?_ ((k107 N _).trans hN) ?_
  ·intro p hp; cases hp
  ·intro l o hd
   simp only [dec107] at hd
   split at hd
   ·obtain rfl := oij hd; exact ⟨rfl, rfl⟩
   ·cases hd
 ·cases hx
def E97 : Env := mkE TI TY [] nrc nfz
noncomputable def c97 : Code := bodyOf Try.f97
def nm97_0 : Norm := ⟨[0, 3, 4], [], [], []⟩
def lv97 : Nat → Option Norm := norms [(5, nm97_0)]
def en97 : End := ⟨[], ⟨[25], [], [], []⟩⟩
def dec97 (l : List TV) (o : List (Nat × TO)) : Option (Int) := match l, o with | [.dv (.int .i64) x0], [] => some (x0) | _, _ => none
def Sl97a (x0 : List Int) (m3_a : Int) (i4_a : Int) : TS := ⟨slots 25 [(0, .dv (.sl (.int .i64)) x0), (3, .dv (.int .i64) m3_a), (4, .dv (.int .i64) i4_a)], []⟩
noncomputable def K97_0 (N : Nat) : Kont (Int) := kont (E97) lv97 N c97 [1, 1, 1, 0, 1, 0] (fin TI en97 (resOf Try.f97) dec97)
noncomputable def R97_0 (N : Nat) (m : Nat) : TS → Option (Int) := loopK (den (E97) lv97 N (sub c97 [1, 1, 1, 0, 1, 0, 0])) (TS.norm nm97_0) (K97_0 N) m
def l97a (N : Nat) (x0 : List Int) : Nat → Int → Int → Option (Int)
 | 0, _, _ => none
 | n + 1, m3_a, i4_a => cond (decide (i4_a < (x0.length : Int))) (chk (decide (0 ≤ i4_a ∧ i4_a < (x0.length : Int))) ((l97a N x0 n (imax m3_a (x0.getD i4_a.toNat (0 : Int))) (w64 (i4_a + (1 : Int))))))
   (some m3_a)
theorem wl97a (N : Nat) (x0 : List Int) (m : Nat) (m3_a : Int) (i4_a : Int) : R97_0 N (m + 1) (Sl97a x0 m3_a i4_a) = cond (decide (i4_a < (x0.length : Int))) (chk (decide (0 ≤ i4_a ∧ i4_a < (x0.length : Int))) ((R97_0 N m (Sl97a x0 (imax m3_a (x0.getD i4_a.toNat (0 : Int))) (w64 (i4_a + (1 : Int)))))))
   (some m3_a) := by kernel_rfl
theorem ql97a (N : Nat) (x0 : List Int) : ∀ (m : Nat) (m3_a : Int) (i4_a : Int), R97_0 N m (Sl97a x0 m3_a i4_a) = l97a N x0 m m3_a i4_a
        | 0, _, _ => rfl
        | m + 1, m3_a, i4_a => by rw [wl97a]; simp only [l97a, ql97a N x0 m]
def m97 (N : Nat) (x0 : List Int) : Option (Int) :=
   cond (decide ((x0.length : Int) < (1 : Int))) (none)
   (chk (decide (0 ≤ (0 : Int) ∧ (0 : Int) < (x0.length : Int))) ((l97a N x0 N (x0.getD 0 (0 : Int)) (1 : Int))))
theorem wm97 (N : Nat) (x0 : List Int) : callF (E97) lv97 N en97 c97 (resOf Try.f97) 24 [.dv (.sl (.int .i64)) x0] [] dec97 = cond (decide ((x0.length : Int) < (1 : Int))) (none)
   (chk (decide (0 ≤ (0 : Int) ∧ (0 : Int) < (x0.length : Int))) ((R97_0 N N (Sl97a x0 (x0.getD 0 (0 : Int)) (1 : Int))))) := by kernel_rfl
theorem k97 (N : Nat) (x0 : List Int) : callF (E97) lv97 N en97 c97 (resOf Try.f97) 24 [.dv (.sl (.int .i64)) x0] [] dec97 = m97 N x0 := by rw [wm97]; simp only [m97, ql97a]
theorem ok97 (a : (List Int) → Option (Int)) (h : ∀ x0 r, a x0 = some r → (∃ N, m97 N x0 = some r)) : FnOk Try.prog 97 (F97 a) := by
 intro args Of x hx
 simp only [F97] at hx
 split at hx
 ·rename_i x0
  obtain ⟨N, hN⟩ := h _ _ hx
  refine lifted (L := []) (rc := nrc) (fz := nfz) (fn := Try.f97) (by kernel_rfl) (by kernel_rfl) (by kernel_rfl) (by kernel_rfl) rfl ?_ ((k97 N _).trans hN) ?_
  ·intro p hp; cases hp
  ·intro l o hd
   simp only [dec97] at hd
   split at hd
   ·obtain rfl := oij hd; exact ⟨rfl, rfl⟩
   ·cases hd
 ·cases hx
def E102 (a107 : Wm0T25) (a97 : Wm0T25) : Env := mkE TI TY [(107, F107 a107), (97, F97 a97)] nrc nfz
noncomputable def c102 : Code := bodyOf Try.f102
def lv102 : Nat → Option Norm := norms []
def en102 : End := ⟨[(22, .ifc 151 (.int .i64) (.ifc 153 (.sl (.int .i64)) (.ifn)))], ⟨[22], [], [], []⟩⟩
def dec102 (l : List TV) (o : List (Nat × TO)) : Option (Int ⊕ ((List Int) ⊕ Unit)) := match l, o with | [.dv (.ifc 151 (.int .i64) (.ifc 153 (.sl (.int .i64)) (.ifn))) x0], [] => some (x0) | _, _ => none
def m102 (a107 : Wm0T25) (a97 : Wm0T25) (N : Nat) (p0 : Int × List (List Int) × Unit) (i1 : Int) : Option (Int ⊕ ((List Int) ⊕ Unit)) :=
   chk (decide (0 ≤ i1 ∧ i1 < (p0.2.1.length : Int))) ((a97 (p0.2.1.getD i1.toNat ([] : List Int))).bind fun r1 =>
   (a107 (p0.2.1.getD i1.toNat ([] : List Int))).bind fun r2 =>
   cond (r1 == r2) (chk (decide (0 ≤ (0 : Int) ∧ (0 : Int) < ((p0.2.1.getD i1.toNat ([] : List Int)).length : Int))) (some (Sum.inl ((p0.2.1.getD i1.toNat ([] : List Int)).getD 0 (0 : Int)))))
   (some (Sum.inr (Sum.inl (p0.2.1.getD i1.toNat ([] : List Int))))))
theorem k102 (a107 : Wm0T25) (a97 : Wm0T25) (N : Nat) (p0 : Int × List (List Int) × Unit) (i1 : Int) : callF (E102 a107 a97) lv102 N en102 c102 (resOf Try.f102) 20 [.dv (.pair (.int .i64) (.pair (.sl (.sl (.int .i64))) (.unit))) p0, .dv (.int .i64) i1] [] dec102 = m102 a107 a97 N p0 i1 := by kernel_rfl
theorem ok102 (a107 : Wm0T25) (a97 : Wm0T25) (h107 : FnOk Try.prog 107 (F107 a107)) (h97 : FnOk Try.prog 97 (F97 a97)) (a : (Int × List (List Int) × Unit) → Int → Option (Int ⊕ ((List Int) ⊕ Unit))) (h : ∀ p0 i1 r, a p0 i1 = some r → (∃ N, m102 a107 a97 N p0 i1 = some r)) : FnOk Try.prog 102 (F102 a) := by
 intro args Of x hx
 simp only [F102] at hx
 split at hx
 ·rename_i p0 i1
  obtain ⟨N, hN⟩ := h _ _ _ hx
  refine lifted (L := [(107, F107 a107), (97, F97 a97)]) (rc := nrc) (fz := nfz) (fn := Try.f102) (by kernel_rfl) (by kernel_rfl) (by kernel_rfl) (by kernel_rfl) rfl ?_ ((k102 a107 a97 N _ _).trans hN) ?_
  ·intro p hp; simp only [List.mem_cons, List.not_mem_nil, or_false] at hp; rcases hp with rfl | rfl
   ·exact h107
   ·exact h97
  ·intro l o hd
   simp only [dec102] at hd
   split at hd
   ·obtain rfl := oij hd; exact ⟨rfl, rfl⟩
   ·cases hd
 ·cases hx
def E43 : Env := mkE TI TY [] nrc nfz
noncomputable def c43 : Code := bodyOf Try.f43
def lv43 : Nat → Option Norm := norms []
def en43 : End := ⟨[(9, .csl (.int .i64))], ⟨[9], [], [], []⟩⟩
def dec43 (l : List TV) (o : List (Nat × TO)) : Option (List Int) := match l, o with | [.dv (.csl (.int .i64)) x0], [] => some (x0) | _, _ => none
def m43 (N : Nat) (s0 : List Int) : Option (List Int) :=
   chk (decide (0 ≤ (s0.length : Int) ∧ (s0.length : Int) ≤ (s0.length : Int)) && decide ((s0.length : Int) = (s0.length : Int))) (some (s0.take ((s0.length : Int).toNat)))
theorem k43 (N : Nat) (s0 : List Int) : callF (E43) lv43 N en43 c43 (resOf Try.f43) 8 [.dv (.sl (.int .i64)) s0] [] dec43 = m43 N s0 := by kernel_rfl
theorem ok43 (a : (List Int) → Option (List Int)) (h : ∀ s0 r, a s0 = some r → (∃ N, m43 N s0 = some r)) : FnOk Try.prog 43 (F43 a) := by
 intro args Of x hx
 simp only [F43] at hx
 split at hx
 ·rename_i s0
  obtain ⟨N, hN⟩ := h _ _ hx
  refine lifted (L := []) (rc := nrc) (fz := nfz) (fn := Try.f43) (by kernel_rfl) (by kernel_rfl) (by kernel_rfl) (by kernel_rfl) rfl ?_ ((k43 N _).trans hN) ?_
  ·intro p hp; cases hp
  ·intro l o hd
   simp only [dec43] at hd
   split at hd
   ·obtain rfl := oij hd; exact ⟨rfl, rfl⟩
   ·cases hd
 ·cases hx
def E94 (a101 : Wm0T26) (a102 : Wm0T27) (a43 : Wm0T28) : Env := mkE TI TY [(101, F101 a101), (102, F102 a102), (43, F43 a43)] nrc (fun i => ([27, 29] : List Nat).contains i)
noncomputable def c94 : Code := bodyOf Try.f94
def nm94_0 : Norm := ⟨[1, 2, 6], [2, 13], [(.slot 7, 1007, .int .u8), (.slot 8, 1008, .sl (.int .i64))], []⟩
def nm94_1 : Norm := ⟨[1, 2, 6, 9, 10, 38, 39], [2, 13], [(.slot 7, 1007, .int .u8), (.slot 8, 1008, .sl (.int .i64))], []⟩
def lv94 : Nat → Option Norm := norms [(4, nm94_0), (10, nm94_1)]
def en94 : End := ⟨[(66, .sl (.int .i64))], ⟨[66, 67], [], [], []⟩⟩
def dec94 (l : List TV) (o : List (Nat × TO)) : Option (List Int × Bool) := match l, o with | [.dv (.sl (.int .i64)) x0, .dv (.bool) x1], [] => some (x0, x1) | _, _ => none
def Sl94b (p0 : Int × List (List Int) × Unit) (want1 : Int) (open7_a : List Int) (sequences8_a : List (List Int)) (t39_b : Int) (open7_b : List Int) (sequences8_b : List (List Int)) (o13_b : List (Int × Bool)) : TS := ⟨slots 66 [(1, .dv (.int .u8) want1), (2, .ptr 2 0 []), (6, .row 13), (7, .row 1007), (8, .row 1008), (9, .dv (.int .u8) (open7_a.getD 0 (0 : Int))), (10, .dv (.sl (.int .i64)) (sequences8_a.getD 0 ([] : List Int))), (38, .dv (.int .i64) (p0.2.1.length : Int)), (39, .dv (.int .i64) t39_b)], [(1007, .row (.int .u8) open7_b), (1008, .row (.sl (.int .i64)) sequences8_b), (2, .row (.pair (.int .i64) (.pair (.sl (.sl (.int .i64))) (.unit))) ([p0] : List (Int × List (List Int) × Unit))), (13, .map (.int .u8) (.bool) o13_b)]⟩
def Sl94a (p0 : Int × List (List Int) × Unit) (want1 : Int) (open7_a : List Int) (sequences8_a : List (List Int)) (o13_a : List (Int × Bool)) : TS := ⟨slots 66 [(1, .dv (.int .u8) want1), (2, .ptr 2 0 []), (6, .row 13), (7, .row 1007), (8, .row 1008)], [(1007, .row (.int .u8) open7_a), (1008, .row (.sl (.int .i64)) sequences8_a), (2, .row (.pair (.int .i64) (.pair (.sl (.sl (.int .i64))) (.unit))) ([p0] : List (Int × List (List Int) × Unit))), (13, .map (.int .u8) (.bool) o13_a)]⟩
noncomputable def K94_0 (a101 : Wm0T26) (a102 : Wm0T27) (a43 : Wm0T28) (N : Nat) : Kont (List Int × Bool) := kont (E94 a101 a102 a43) lv94 N c94 [1, 1, 1, 1, 0, 0] (fin TI en94 (resOf Try.f94) dec94)
noncomputable def R94_0 (a101 : Wm0T26) (a102 : Wm0T27) (a43 : Wm0T28) (N : Nat) (m : Nat) : TS → Option (List Int × Bool) := loopK (den (E94 a101 a102 a43) lv94 N (sub c94 [1, 1, 1, 1, 0, 0, 0])) (TS.norm nm94_0) (K94_0 a101 a102 a43 N) m
noncomputable def K94_1 (a101 : Wm0T26) (a102 : Wm0T27) (a43 : Wm0T28) (N : Nat) (T94_0 : TS → Option (List Int × Bool)) : Kont (List Int × Bool) := kont (E94 a101 a102 a43) lv94 N (sub c94 [1, 1, 1, 1, 0, 0, 0]) [1, 0, 1, 1, 1, 1, 0] (kloop (TS.norm nm94_0) (K94_0 a101 a102 a43 N) T94_0)
noncomputable def R94_1 (a101 : Wm0T26) (a102 : Wm0T27) (a43 : Wm0T28) (N : Nat) (T94_0 : TS → Option (List Int × Bool)) (m : Nat) : TS → Option (List Int × Bool) := loopK (den (E94 a101 a102 a43) lv94 N (sub c94 [1, 1, 1, 1, 0, 0, 0, 1, 0, 1, 1, 1, 1, 0, 0])) (TS.norm nm94_1) (K94_1 a101 a102 a43 N T94_0) m
def l94b (a101 : Wm0T26) (a102 : Wm0T27) (a43 : Wm0T28) (N : Nat) (p0 : Int × List (List Int) × Unit) (want1 : Int) (open7_a : List Int) (sequences8_a : List (List Int)) (rec_l94a : (List Int) → (List (List Int)) → (List (Int × Bool)) → Option (List Int × Bool)) : Nat → Int → (List Int) → (List (List Int)) → (List (Int × Bool)) → Option (List Int × Bool)
 | 0, _, _, _, _ => none
 | n + 1, t39_b, open7_b, sequences8_b, o13_b => cond (decide (t39_b < (p0.2.1.length : Int))) ((a102 p0 t39_b).bind fun r1 =>
   (a101 (open7_a.getD 0 (0 : Int)) r1).bind fun r2 =>
   cond (!((mget (kt := .int .u8) (vt := .bool) o13_b r2).getD false)) (chk (small (open7_b.length + 1) 1) ((a43 (sequences8_a.getD 0 ([] : List Int))).bind fun r3 =>
   chk (small (r3.length + 1) 8) (chk (small (sequences8_b.length + 1) 24) ((l94b a101 a102 a43 N p0 want1 open7_a sequences8_a rec_l94a n (w64 (t39_b + (1 : Int))) (open7_b ++ ([r2] : List Int)) (sequences8_b ++ ([r3 ++ ([t39_b] : List Int)] : List (List Int))) (mput (kt := .int .u8) (vt := .bool) o13_b r2 true))))))
   ((l94b a101 a102 a43 N p0 want1 open7_a sequences8_a rec_l94a n (w64 (t39_b + (1 : Int))) open7_b sequences8_b o13_b)))
   ((rec_l94a open7_b sequences8_b o13_b))
theorem wl94b (a101 : Wm0T26) (a102 : Wm0T27) (a43 : Wm0T28) (N : Nat) (p0 : Int × List (List Int) × Unit) (want1 : Int) (open7_a : List Int) (sequences8_a : List (List Int)) (T94_0 : TS → Option (List Int × Bool)) (m : Nat) (t39_b : Int) (open7_b : List Int) (sequences8_b : List (List Int)) (o13_b : List (Int × Bool)) : R94_1 a101 a102 a43 N T94_0 (m + 1) (Sl94b p0 want1 open7_a sequences8_a t39_b open7_b sequences8_b o13_b) = cond (decide (t39_b < (p0.2.1.length : Int))) ((a102 p0 t39_b).bind fun r1 =>
   (a101 (open7_a.getD 0 (0 : Int)) r1).bind fun r2 =>
   cond (!((mget (kt := .int .u8) (vt := .bool) o13_b r2).getD false)) (chk (small (open7_b.length + 1) 1) ((a43 (sequences8_a.getD 0 ([] : List Int))).bind fun r3 =>
   chk (small (r3.length + 1) 8) (chk (small (sequences8_b.length + 1) 24) ((R94_1 a101 a102 a43 N T94_0 m (Sl94b p0 want1 open7_a sequences8_a (w64 (t39_b + (1 : Int))) (open7_b ++ ([r2] : List Int)) (sequences8_b ++ ([r3 ++ ([t39_b] : List Int)] : List (List Int))) (mput (kt := .int .u8) (vt := .bool) o13_b r2 true)))))))
   ((R94_1 a101 a102 a43 N T94_0 m (Sl94b p0 want1 open7_a sequences8_a (w64 (t39_b + (1 : Int))) open7_b sequences8_b o13_b))))
   ((T94_0 (Sl94a p0 want1 open7_b sequences8_b o13_b))) := by kernel_rfl
theorem ql94b (a101 : Wm0T26) (a102 : Wm0T27) (a43 : Wm0T28) (N : Nat) (p0 : Int × List (List Int) × Unit) (want1 : Int) (open7_a : List Int) (sequences8_a : List (List Int)) (T94_0 : TS → Option (List Int × Bool)) : ∀ (m : Nat) (t39_b : Int) (open7_b : List Int) (sequences8_b : List (List Int)) (o13_b : List (Int × Bool)), R94_1 a101 a102 a43 N T94_0 m (Sl94b p0 want1 open7_a sequences8_a t39_b open7_b sequences8_b o13_b) = l94b a101 a102 a43 N p0 want1 open7_a sequences8_a (fun y0 y1 y2 => T94_0 (Sl94a p0 want1 y0 y1 y2)) m t39_b open7_b sequences8_b o13_b
        | 0, _, _, _, _ => rfl
        | m + 1, t39_b, open7_b, sequences8_b, o13_b => by rw [wl94b]; simp only [l94b, ql94b a101 a102 a43 N p0 want1 open7_a sequences8_a T94_0 m]
def l94a (a101 : Wm0T26) (a102 : Wm0T27) (a43 : Wm0T28) (N : Nat) (p0 : Int × List (List Int) × Unit) (want1 : Int) : Nat → (List Int) → (List (List Int)) → (List (Int × Bool)) → Option (List Int × Bool)
 | 0, _, _, _ => none
 | n + 1, open7_a, sequences8_a, o13_a => cond (decide ((open7_a.length : Int) > (0 : Int))) (chk (decide (0 ≤ (0 : Int) ∧ (0 : Int) < (open7_a.length : Int))) (chk (decide (0 ≤ (0 : Int) ∧ (0 : Int) < (sequences8_a.length : Int))) (chk (decide (0 ≤ (1 : Int) ∧ (1 : Int) ≤ (open7_a.length : Int))) (chk (decide (0 ≤ (1 : Int) ∧ (1 : Int) ≤ (sequences8_a.length : Int))) (cond ((bAnd .u8 (open7_a.getD 0 (0 : Int)) want1) == want1) (some (sequences8_a.getD 0 ([] : List Int), true))
   ((l94b a101 a102 a43 N p0 want1 open7_a sequences8_a (fun y0 y1 y2 => (l94a a101 a102 a43 N p0 want1 n y0 y1 y2)) N (0 : Int) (open7_a.drop 1) (sequences8_a.drop 1) o13_a)))))))
   (some (([] : List Int), false))
theorem wl94a (a101 : Wm0T26) (a102 : Wm0T27) (a43 : Wm0T28) (N : Nat) (p0 : Int × List (List Int) × Unit) (want1 : Int) (m : Nat) (open7_a : List Int) (sequences8_a : List (List Int)) (o13_a : List (Int × Bool)) : R94_0 a101 a102 a43 N (m + 1) (Sl94a p0 want1 open7_a sequences8_a o13_a) = cond (decide ((open7_a.length : Int) > (0 : Int))) (chk (decide (0 ≤ (0 : Int) ∧ (0 : Int) < (open7_a.length : Int))) (chk (decide (0 ≤ (0 : Int) ∧ (0 : Int) < (sequences8_a.length : Int))) (chk (decide (0 ≤ (1 : Int) ∧ (1 : Int) ≤ (open7_a.length : Int))) (chk (decide (0 ≤ (1 : Int) ∧ (1 : Int) ≤ (sequences8_a.length : Int))) (cond ((bAnd .u8 (open7_a.getD 0 (0 : Int)) want1) == want1) (some (sequences8_a.getD 0 ([] : List Int), true))
   ((R94_1 a101 a102 a43 N (R94_0 a101 a102 a43 N m) N (Sl94b p0 want1 open7_a sequences8_a (0 : Int) (open7_a.drop 1) (sequences8_a.drop 1) o13_a))))))))
   (some (([] : List Int), false)) := by kernel_rfl
theorem ql94a (a101 : Wm0T26) (a102 : Wm0T27) (a43 : Wm0T28) (N : Nat) (p0 : Int × List (List Int) × Unit) (want1 : Int) : ∀ (m : Nat) (open7_a : List Int) (sequences8_a : List (List Int)) (o13_a : List (Int × Bool)), R94_0 a101 a102 a43 N m (Sl94a p0 want1 open7_a sequences8_a o13_a) = l94a a101 a102 a43 N p0 want1 m open7_a sequences8_a o13_a
        | 0, _, _, _ => rfl
        | m + 1, open7_a, sequences8_a, o13_a => by rw [wl94a]; simp only [l94a, ql94b, ql94a a101 a102 a43 N p0 want1 m]
def m94 (a101 : Wm0T26) (a102 : Wm0T27) (a43 : Wm0T28) (N : Nat) (p0 : Int × List (List Int) × Unit) (want1 : Int) : Option (List Int × Bool) :=
   (l94a a101 a102 a43 N p0 want1 N ([(1 : Int)] : List Int) ([([] : List Int)] : List (List Int)) (mput (kt := .int .u8) (vt := .bool) ([] : List (Int × Bool)) (1 : Int) true))
theorem wm94 (a101 : Wm0T26) (a102 : Wm0T27) (a43 : Wm0T28) (N : Nat) (p0 : Int × List (List Int) × Unit) (want1 : Int) : callF (E94 a101 a102 a43) lv94 N en94 c94 (resOf Try.f94) 64 [.dv (.pair (.int .i64) (.pair (.sl (.sl (.int .i64))) (.unit))) p0, .dv (.int .u8) want1] [] dec94 = (R94_0 a101 a102 a43 N N (Sl94a p0 want1 ([(1 : Int)] : List Int) ([([] : List Int)] : List (List Int)) (mput (kt := .int .u8) (vt := .bool) ([] : List (Int × Bool)) (1 : Int) true))) := by kernel_rfl
theorem k94 (a101 : Wm0T26) (a102 : Wm0T27) (a43 : Wm0T28) (N : Nat) (p0 : Int × List (List Int) × Unit) (want1 : Int) : callF (E94 a101 a102 a43) lv94 N en94 c94 (resOf Try.f94) 64 [.dv (.pair (.int .i64) (.pair (.sl (.sl (.int .i64))) (.unit))) p0, .dv (.int .u8) want1] [] dec94 = m94 a101 a102 a43 N p0 want1 := by rw [wm94]; simp only [m94, ql94a]
theorem ok94 (a101 : Wm0T26) (a102 : Wm0T27) (a43 : Wm0T28) (h101 : FnOk Try.prog 101 (F101 a101)) (h102 : FnOk Try.prog 102 (F102 a102)) (h43 : FnOk Try.prog 43 (F43 a43)) (a : (Int × List (List Int) × Unit) → Int → Option (List Int × Bool)) (h : ∀ p0 want1 r, a p0 want1 = some r → (∃ N, m94 a101 a102 a43 N p0 want1 = some r)) : FnOk Try.prog 94 (F94 a) := by
 intro args Of x hx
 simp only [F94] at hx
 split at hx
 ·rename_i p0 want1
  obtain ⟨N, hN⟩ := h _ _ _ hx
  refine lifted (L := [(101, F101 a101), (102, F102 a102), (43, F43 a43)]) (rc := nrc) (fz := (fun i => ([27, 29] : List Nat).contains i)) (fn := Try.f94) (by kernel_rfl) (by kernel_rfl) (by kernel_rfl) (by kernel_rfl) rfl ?_ ((k94 a101 a102 a43 N _ _).trans hN) ?_
  ·intro p hp; simp only [List.mem_cons, List.not_mem_nil, or_false] at hp; rcases hp with rfl | rfl | rfl
   ·exact h101
   ·exact h102
   ·exact h43
  ·intro l o hd
   simp only [dec94] at hd
   split at hd
   ·obtain rfl := oij hd; exact ⟨rfl, rfl⟩
   ·cases hd
 ·cases hx
def E76 (a92 : Wm0T29) (a93 : Wm0T30) (a94 : Wm0T31) : Env := mkE TI TY [(92, F92 a92), (93, F93 a93), (94, F94 a94)] nrc nfz
noncomputable def c76 : Code := bodyOf Try.f76
def lv76 : Nat → Option Norm := norms []
def en76 : End := ⟨[(34, .sl (.int .i64))], ⟨[34, 35], [], [], []⟩⟩
def dec76 (l : List TV) (o : List (Nat × TO)) : Option (List Int × Int) := match l, o with | [.dv (.sl (.int .i64)) x0, .dv (.int .i64) x1], [] => some (x0, x1) | _, _ => none
def m76 (a92 : Wm0T29) (a93 : Wm0T30) (a94 : Wm0T31) (N : Nat) (p0 : Int × List (List Int) × Unit) (sketch1 : List Int) : Option (List Int × Int) :=
   (a92 p0).bind fun r1 =>
   cond (r1 != (0 : Int)) (some (([] : List Int), r1))
   ((a93 p0 sketch1).bind fun r2 =>
   cond (r2.2 != (0 : Int)) (some (([] : List Int), r2.2))
   ((a94 p0 r2.1).bind fun r3 =>
   cond (!r3.2) (some (([] : List Int), (14 : Int)))
   (some (r3.1, (0 : Int)))))
theorem k76 (a92 : Wm0T29) (a93 : Wm0T30) (a94 : Wm0T31) (N : Nat) (p0 : Int × List (List Int) × Unit) (sketch1 : List Int) : callF (E76 a92 a93 a94) lv76 N en76 c76 (resOf Try.f76) 32 [.dv (.pair (.int .i64) (.pair (.sl (.sl (.int .i64))) (.unit))) p0, .dv (.sl (.int .i64)) sketch1] [] dec76 = m76 a92 a93 a94 N p0 sketch1 := by kernel_rfl
theorem ok76 (a92 : Wm0T29) (a93 : Wm0T30) (a94 : Wm0T31) (h92 : FnOk Try.prog 92 (F92 a92)) (h93 : FnOk Try.prog 93 (F93 a93)) (h94 : FnOk Try.prog 94 (F94 a94)) (a : (Int × List (List Int) × Unit) → (List Int) → Option (List Int × Int)) (h : ∀ p0 sketch1 r, a p0 sketch1 = some r → (∃ N, m76 a92 a93 a94 N p0 sketch1 = some r)) : FnOk Try.prog 76 (F76 a) := by
 intro args Of x hx
 simp only [F76] at hx
 split at hx
 ·rename_i p0 sketch1
  obtain ⟨N, hN⟩ := h _ _ _ hx
  refine lifted (L := [(92, F92 a92), (93, F93 a93), (94, F94 a94)]) (rc := nrc) (fz := nfz) (fn := Try.f76) (by kernel_rfl) (by kernel_rfl) (by kernel_rfl) (by kernel_rfl) rfl ?_ ((k76 a92 a93 a94 N _ _).trans hN) ?_
  ·intro p hp; simp only [List.mem_cons, List.not_mem_nil, or_false] at hp; rcases hp with rfl | rfl | rfl
   ·exact h92
   ·exact h93
   ·exact h94
  ·intro l o hd
   simp only [dec76] at hd
   split at hd
   ·obtain rfl := oij hd; exact ⟨rfl, rfl⟩
   ·cases hd
 ·cases hx
def E46 (a20 : Wm0T17) (a75 : Wm0T32) (a76 : Wm0T33) : Env := mkE TI TY [(20, F20 a20), (75, F75 a75), (76, F76 a76)] nrc nfz
noncomputable def c46 : Code := bodyOf Try.f46
def lv46 : Nat → Option Norm := norms []
def en46 : End := ⟨[], ⟨[49], [], [], []⟩⟩
def dec46 (l : List TV) (o : List (Nat × TO)) : Option (Bool) := match l, o with | [.dv (.bool) x0], [] => some (x0) | _, _ => none
def m46 (a20 : Wm0T17) (a75 : Wm0T32) (a76 : Wm0T33) (N : Nat) : Option (Bool) :=
   (a75 (5 : Int) (2 : Int)).bind fun r1 =>
   cond (r1.2 != (0 : Int)) (some false)
   (cond ((r1.1.length : Int) != (5 : Int)) (some false)
   ((a20 r1.1 ([(1 : Int), (2 : Int)] : List Int)).bind fun r2 =>
   (a76 ((5 : Int), (([([(1 : Int), (1 : Int), (3 : Int), (3 : Int), (4 : Int)] : List Int), ([(2 : Int), (3 : Int), (2 : Int), (3 : Int), (4 : Int)] : List Int), ([(4 : Int), (4 : Int), (4 : Int), (4 : Int), (4 : Int)] : List Int)] : List (List Int)), ())) ([(3 : Int), (4 : Int)] : List Int)).bind fun r3 =>
   cond (r2.2 == (0 : Int)) (cond (r3.2 == (0 : Int)) (cond (r2.1 == (2 : Int)) (some ((r3.1.length : Int) == (3 : Int)))
   (some false))
   (some false))
   (some false)))
theorem k46 (a20 : Wm0T17) (a75 : Wm0T32) (a76 : Wm0T33) (N : Nat) : callF (E46 a20 a75 a76) lv46 N en46 c46 (resOf Try.f46) 49 [] [] dec46 = m46 a20 a75 a76 N := by kernel_rfl
theorem ok46 (a20 : Wm0T17) (a75 : Wm0T32) (a76 : Wm0T33) (h20 : FnOk Try.prog 20 (F20 a20)) (h75 : FnOk Try.prog 75 (F75 a75)) (h76 : FnOk Try.prog 76 (F76 a76)) (a : Option (Bool)) (h : ∀ r, a = some r → (∃ N, m46 a20 a75 a76 N = some r)) : FnOk Try.prog 46 (F46 a) := by
 intro args Of x hx
 simp only [F46] at hx
 split at hx
 ·skip
  obtain ⟨N, hN⟩ := h _ hx
  refine lifted (L := [(20, F20 a20), (75, F75 a75), (76, F76 a76)]) (rc := nrc) (fz := nfz) (fn := Try.f46) (by kernel_rfl) (by kernel_rfl) (by kernel_rfl) (by kernel_rfl) rfl ?_ ((k46 a20 a75 a76 N).trans hN) ?_
  ·intro p hp; simp only [List.mem_cons, List.not_mem_nil, or_false] at hp; rcases hp with rfl | rfl | rfl
   ·exact h20
   ·exact h75
   ·exact h76
  ·intro l o hd
   simp only [dec46] at hd
   split at hd
   ·obtain rfl := oij hd; exact ⟨rfl, rfl⟩
   ·cases hd
 ·cases hx
def E17 (a45 : Int → Int → Option (Int × Int)) (a46 : Option (Bool)) : Env := mkE TI TY [(45, F45 a45), (46, F46 a46)] nrc nfz
noncomputable def c17 : Code := bodyOf Try.f17
def lv17 : Nat → Option Norm := norms []
def en17 : End := ⟨[], ⟨[16], [], [], []⟩⟩
def dec17 (l : List TV) (o : List (Nat × TO)) : Option (Bool) := match l, o with | [.dv (.bool) x0], [] => some (x0) | _, _ => none
def m17 (a45 : Int → Int → Option (Int × Int)) (a46 : Option (Bool)) (N : Nat) : Option (Bool) :=
   (a45 (2 : Int) (3 : Int)).bind fun r1 =>
   cond (r1.2 == (0 : Int)) (cond (r1.1 == (12 : Int)) ((a46).bind fun r2 =>
   some r2)
   (some false))
   (some false)
theorem k17 (a45 : Int → Int → Option (Int × Int)) (a46 : Option (Bool)) (N : Nat) : callF (E17 a45 a46) lv17 N en17 c17 (resOf Try.f17) 16 [] [] dec17 = m17 a45 a46 N := by kernel_rfl
theorem ok17 (a45 : Int → Int → Option (Int × Int)) (a46 : Option (Bool)) (h45 : FnOk Try.prog 45 (F45 a45)) (h46 : FnOk Try.prog 46 (F46 a46)) (a : Option (Bool)) (h : ∀ r, a = some r → (∃ N, m17 a45 a46 N = some r)) : FnOk Try.prog 17 (F17 a) := by
 intro args Of x hx
 simp only [F17] at hx
 split at hx
 ·skip
  obtain ⟨N, hN⟩ := h _ hx
  refine lifted (L := [(45, F45 a45), (46, F46 a46)]) (rc := nrc) (fz := nfz) (fn := Try.f17) (by kernel_rfl) (by kernel_rfl) (by kernel_rfl) (by kernel_rfl) rfl ?_ ((k17 a45 a46 N).trans hN) ?_
  ·intro p hp; simp only [List.mem_cons, List.not_mem_nil, or_false] at hp; rcases hp with rfl | rfl
   ·exact h45
   ·exact h46
  ·intro l o hd
   simp only [dec17] at hd
   split at hd
   ·obtain rfl := oij hd; exact ⟨rfl, rfl⟩
   ·cases hd
 ·cases hx
def E88c : Env := mkE TI TY [] nrc nfz
noncomputable def c88c : Code := bodyOf Try.f88
def lv88c : Nat → Option Norm := norms []
def en88c : End := ⟨[], ⟨[11], [9000], [], []⟩⟩
def dec88c (l : List TV) (o : List (Nat × TO)) : Option (Bool × List (List Int)) := match l, o with | [.dv (.bool) x0], [(9000, .rcd [.dv (.sl (.sl (.int .i64))) x1])] => some (x0, x1) | _, _ => none
def m88c (N : Nat) (lx0 : List Int) (p1 : List (List Int)) : Option (Bool × List (List Int)) :=
   chk (decide (0 ≤ (0 : Int) ∧ (0 : Int) < (p1.length : Int))) (some ((lx0.length : Int) != ((p1.getD 0 ([] : List Int)).length : Int), p1))
theorem k88c (N : Nat) (lx0 : List Int) (p1 : List (List Int)) : callF (E88c) lv88c N en88c c88c (resOf Try.f88) 9 [.dv (.sl (.int .i64)) lx0, .ptr 9000 0 [0]] [(9000, .rcd [.dv (.sl (.sl (.int .i64))) p1])] dec88c = m88c N lx0 p1 := by kernel_rfl
theorem ok88c (a : (List Int) → (List (List Int)) → Option (Bool × List (List Int))) (h : ∀ lx0 p1 r, a lx0 p1 = some r → (∃ N, m88c N lx0 p1 = some r)) : FnOk Try.prog 88 (F88c a) := by
 intro args Of x hx
 simp only [F88c] at hx
 split at hx
 ·rename_i lx0 p1
  obtain ⟨N, hN⟩ := h _ _ _ hx
  refine lifted (L := []) (rc := nrc) (fz := nfz) (fn := Try.f88) (by kernel_rfl) (by kernel_rfl) (by kernel_rfl) (by kernel_rfl) rfl ?_ ((k88c N _ _).trans hN) ?_
  ·intro p hp; cases hp
  ·intro l o hd
   simp only [dec88c] at hd
   split at hd
   ·obtain rfl := oij hd; exact ⟨rfl, rfl⟩
   ·cases hd
 ·cases hx
def E67c88 (a88c : Wm0T14) : Env := mkE TI TY [(88, F88c a88c)] nrc nfz
noncomputable def c67c88 : Code := bodyOf Try.f67
def nm67c88_0 : Norm := ⟨[0, 1, 7, 8], [9000], [], []⟩
def lv67c88 : Nat → Option Norm := norms [(2, nm67c88_0)]
def en67c88 : End := ⟨[], ⟨[19], [9000], [], []⟩⟩
def dec67c88 (l : List TV) (o : List (Nat × TO)) : Option (Int × List (List Int)) := match l, o with | [.dv (.int .i64) x0], [(9000, .rcd [.dv (.sl (.sl (.int .i64))) x1])] => some (x0, x1) | _, _ => none
def Sl67c88a (s0 : List (List Int)) (t8_a : Int) (o9000_af0 : Wm0T2) : TS := ⟨slots 19 [(0, .dv (.sl (.sl (.int .i64))) s0), (1, .fn 88 0 1 fun i => ([.ptr 9000 0 [0]] : List TV).getD i .any), (7, .dv (.int .i64) (s0.length : Int)), (8, .dv (.int .i64) t8_a)], [(9000, .rcd [.dv (.sl (.sl (.int .i64))) o9000_af0])]⟩
noncomputable def K67c88_0 (a88c : Wm0T14) (N : Nat) : Kont (Int × List (List Int)) := kont (E67c88 a88c) lv67c88 N c67c88 [1, 0, 1, 0] (fin TI en67c88 (resOf Try.f67) dec67c88)
noncomputable def R67c88_0 (a88c : Wm0T14) (N : Nat) (m : Nat) : TS → Option (Int × List (List Int)) := loopK (den (E67c88 a88c) lv67c88 N (sub c67c88 [1, 0, 1, 0, 0])) (TS.norm nm67c88_0) (K67c88_0 a88c N) m
def l67c88a (a88c : Wm0T14) (N : Nat) (s0 : List (List Int)) : Nat → Int → (List (List Int)) → Option (Int × List (List Int))
 | 0, _, _ => none
 | n + 1, t8_a, o9000_af0 => cond (decide (t8_a < (s0.length : Int))) (chk (decide (0 ≤ t8_a ∧ t8_a < (s0.length : Int))) ((a88c (s0.getD t8_a.toNat ([] : List Int)) o9000_af0).bind fun r1 =>
   cond (r1.1) (some (t8_a, r1.2))
   ((l67c88a a88c N s0 n (w64 (t8_a + (1 : Int))) r1.2))))
   (some ((-1 : Int), o9000_af0))
theorem wl67c88a (a88c : Wm0T14) (N : Nat) (s0 : List (List Int)) (m : Nat) (t8_a : Int) (o9000_af0 : Wm0T2) : R67c88_0 a88c N (m + 1) (Sl67c88a s0 t8_a o9000_af0) = cond (decide (t8_a < (s0.length : Int))) (chk (decide (0 ≤ t8_a ∧ t8_a < (s0.length : Int))) ((a88c (s0.getD t8_a.toNat ([] : List Int)) o9000_af0).bind fun r1 =>
   cond (r1.1) (some (t8_a, r1.2))
   ((R67c88_0 a88c N m (Sl67c88a s0 (w64 (t8_a + (1 : Int))) r1.2)))))
   (some ((-1 : Int), o9000_af0)) := by kernel_rfl
theorem ql67c88a (a88c : Wm0T14) (N : Nat) (s0 : List (List Int)) : ∀ (m : Nat) (t8_a : Int) (o9000_af0 : Wm0T2), R67c88_0 a88c N m (Sl67c88a s0 t8_a o9000_af0) = l67c88a a88c N s0 m t8_a o9000_af0
        | 0, _, _ => rfl
        | m + 1, t8_a, o9000_af0 => by rw [wl67c88a]; simp only [l67c88a, ql67c88a a88c N s0 m]
def m67c88 (a88c : Wm0T14) (N : Nat) (s0 : List (List Int)) (p1 : List (List Int)) : Option (Int × List (List Int)) :=
   (l67c88a a88c N s0 N (0 : Int) p1)
theorem wm67c88 (a88c : Wm0T14) (N : Nat) (s0 : List (List Int)) (p1 : List (List Int)) : callF (E67c88 a88c) lv67c88 N en67c88 c67c88 (resOf Try.f67) 17 [.dv (.sl (.sl (.int .i64))) s0, .fn 88 0 1 fun i => ([.ptr 9000 0 [0]] : List TV).getD i .any] [(9000, .rcd [.dv (.sl (.sl (.int .i64))) p1])] dec67c88 = (R67c88_0 a88c N N (Sl67c88a s0 (0 : Int) p1)) := by kernel_rfl
theorem k67c88 (a88c : Wm0T14) (N : Nat) (s0 : List (List Int)) (p1 : List (List Int)) : callF (E67c88 a88c) lv67c88 N en67c88 c67c88 (resOf Try.f67) 17 [.dv (.sl (.sl (.int .i64))) s0, .fn 88 0 1 fun i => ([.ptr 9000 0 [0]] : List TV).getD i .any] [(9000, .rcd [.dv (.sl (.sl (.int .i64))) p1])] dec67c88 = m67c88 a88c N s0 p1 := by rw [wm67c88]; simp only [m67c88, ql67c88a]
theorem ok67c88 (a88c : Wm0T14) (h88c : FnOk Try.prog 88 (F88c a88c)) (a : (List (List Int)) → (List (List Int)) → Option (Int × List (List Int))) (h : ∀ s0 p1 r, a s0 p1 = some r → (∃ N, m67c88 a88c N s0 p1 = some r)) : FnOk Try.prog 67 (F67c88 a) := by
 intro args Of x hx
 simp only [F67c88] at hx
 split at hx
 ·rename_i s0 f_0 p1 heqc
  have hc0 := congrArg (fun c : List (List TV) => c.getD 0 []) heqc
  obtain ⟨N, hN⟩ := h _ _ _ hx
  refine HSpec.etaL (args := [.dv (.sl (.sl (.int .i64))) s0, .fn 88 0 1 fun i => ([.ptr 9000 0 [0]] : List TV).getD i .any]) (O := [(9000, .rcd [.dv (.sl (.sl (.int .i64))) p1])]) ⟨TV.sim_refl _, TV.sim_fn hc0, trivial⟩ ⟨rfl, TO.sim_refl _, trivial⟩ (lifted (L := [(88, F88c a88c)]) (rc := nrc) (fz := nfz) (fn := Try.f67) (by kernel_rfl) (by kernel_rfl) (by kernel_rfl) (by kernel_rfl) rfl ?_ ((k67c88 a88c N _ _).trans hN) ?_)
  ·intro p hp; simp only [List.mem_cons, List.not_mem_nil, or_false] at hp; rcases hp with rfl; exact h88c
  ·intro l o hd
   simp only [dec67c88] at hd
   split at hd
   ·obtain rfl := oij hd; exact ⟨rfl, rfl⟩
   ·cases hd
 ·cases hx
def E31c88 (a67c88 : Wm0T34) : Env := mkE TI TY [(67, F67c88 a67c88)] nrc nfz
noncomputable def c31c88 : Code := bodyOf Try.f31
def lv31c88 : Nat → Option Norm := norms []
def en31c88 : End := ⟨[], ⟨[9], [9000], [], []⟩⟩
def dec31c88 (l : List TV) (o : List (Nat × TO)) : Option (Bool × List (List Int)) := match l, o with | [.dv (.bool) x0], [(9000, .rcd [.dv (.sl (.sl (.int .i64))) x1])] => some (x0, x1) | _, _ => none
def m31c88 (a67c88 : Wm0T34) (N : Nat) (s0 : List (List Int)) (p1 : List (List Int)) : Option (Bool × List (List Int)) :=
   (a67c88 s0 p1).bind fun r1 =>
   some (decide (r1.1 ≥ (0 : Int)), r1.2)
theorem k31c88 (a67c88 : Wm0T34) (N : Nat) (s0 : List (List Int)) (p1 : List (List Int)) : callF (E31c88 a67c88) lv31c88 N en31c88 c31c88 (resOf Try.f31) 7 [.dv (.sl (.sl (.int .i64))) s0, .fn 88 0 1 fun i => ([.ptr 9000 0 [0]] : List TV).getD i .any] [(9000, .rcd [.dv (.sl (.sl (.int .i64))) p1])] dec31c88 = m31c88 a67c88 N s0 p1 := by kernel_rfl
theorem ok31c88 (a67c88 : Wm0T34) (h67c88 : FnOk Try.prog 67 (F67c88 a67c88)) (a : (List (List Int)) → (List (List Int)) → Option (Bool × List (List Int))) (h : ∀ s0 p1 r, a s0 p1 = some r → (∃ N, m31c88 a67c88 N s0 p1 = some r)) : FnOk Try.prog 31 (F31c88 a) := by
 intro args Of x hx
 simp only [F31c88] at hx
 split at hx
 ·rename_i s0 f_0 p1 heqc
  have hc0 := congrArg (fun c : List (List TV) => c.getD 0 []) heqc
  obtain ⟨N, hN⟩ := h _ _ _ hx
  refine HSpec.etaL (args := [.dv (.sl (.sl (.int .i64))) s0, .fn 88 0 1 fun i => ([.ptr 9000 0 [0]] : List TV).getD i .any]) (O := [(9000, .rcd [.dv (.sl (.sl (.int .i64))) p1])]) ⟨TV.sim_refl _, TV.sim_fn hc0, trivial⟩ ⟨rfl, TO.sim_refl _, trivial⟩ (lifted (L := [(67, F67c88 a67c88)]) (rc := nrc) (fz := nfz) (fn := Try.f31) (by kernel_rfl) (by kernel_rfl) (by kernel_rfl) (by kernel_rfl) rfl ?_ ((k31c88 a67c88 N _ _).trans hN) ?_)
  ·intro p hp; simp only [List.mem_cons, List.not_mem_nil, or_false] at hp; rcases hp with rfl; exact h67c88
  ·intro l o hd
   simp only [dec31c88] at hd
   split at hd
   ·obtain rfl := oij hd; exact ⟨rfl, rfl⟩
   ·cases hd
 ·cases hx
def E57 : Env := mkE TI TY [] nrc nfz
noncomputable def c57 : Code := bodyOf Try.f57
def lv57 : Nat → Option Norm := norms []
def en57 : End := ⟨[], ⟨[15], [], [], []⟩⟩
def dec57 (l : List TV) (o : List (Nat × TO)) : Option (Bool) := match l, o with | [.dv (.bool) x0], [] => some (x0) | _, _ => none
def m57 (N : Nat) (lo0 : Int) (n1 : Int) (hi2 : Int) : Option (Bool) :=
   cond (decide (lo0 ≤ n1)) (some (decide (n1 ≤ hi2)))
   (some false)
theorem k57 (N : Nat) (lo0 : Int) (n1 : Int) (hi2 : Int) : callF (E57) lv57 N en57 c57 (resOf Try.f57) 12 [.dv (.int .i64) lo0, .dv (.int .i64) n1, .dv (.int .i64) hi2] [] dec57 = m57 N lo0 n1 hi2 := by kernel_rfl
theorem ok57 (a : Int → Int → Int → Option (Bool)) (h : ∀ lo0 n1 hi2 r, a lo0 n1 hi2 = some r → (∃ N, m57 N lo0 n1 hi2 = some r)) : FnOk Try.prog 57 (F57 a) := by
 intro args Of x hx
 simp only [F57] at hx
 split at hx
 ·rename_i lo0 n1 hi2
  obtain ⟨N, hN⟩ := h _ _ _ _ hx
  refine lifted (L := []) (rc := nrc) (fz := nfz) (fn := Try.f57) (by kernel_rfl) (by kernel_rfl) (by kernel_rfl) (by kernel_rfl) rfl ?_ ((k57 N _ _ _).trans hN) ?_
  ·intro p hp; cases hp
  ·intro l o hd
   simp only [dec57] at hd
   split at hd
   ·obtain rfl := oij hd; exact ⟨rfl, rfl⟩
   ·cases hd
 ·cases hx
def E89 (a57 : Wm0T0) : Env := mkE TI TY [(57, F57 a57)] nrc nfz
noncomputable def c89 : Code := bodyOf Try.f89
def lv89 : Nat → Option Norm := norms []
def en89 : End := ⟨[], ⟨[6], [], [], []⟩⟩
def dec89 (l : List TV) (o : List (Nat × TO)) : Option (Bool) := match l, o with | [.dv (.bool) x0], [] => some (x0) | _, _ => none
def m89 (a57 : Wm0T0) (N : Nat) (hx0 : Int) : Option (Bool) :=
   (a57 (0 : Int) hx0 (30 : Int)).bind fun r1 =>
   some (!r1)
theorem k89 (a57 : Wm0T0) (N : Nat) (hx0 : Int) : callF (E89 a57) lv89 N en89 c89 (resOf Try.f89) 5 [.dv (.int .i64) hx0] [] dec89 = m89 a57 N hx0 := by kernel_rfl
theorem ok89 (a57 : Wm0T0) (h57 : FnOk Try.prog 57 (F57 a57)) (a : Int → Option (Bool)) (h : ∀ hx0 r, a hx0 = some r → (∃ N, m89 a57 N hx0 = some r)) : FnOk Try.prog 89 (F89 a) := by
 intro args Of x hx
 simp only [F89] at hx
 split at hx
 ·rename_i hx0
  obtain ⟨N, hN⟩ := h _ _ hx
  refine lifted (L := [(57, F57 a57)]) (rc := nrc) (fz := nfz) (fn := Try.f89) (by kernel_rfl) (by kernel_rfl) (by kernel_rfl) (by kernel_rfl) rfl ?_ ((k89 a57 N _).trans hN) ?_
  ·intro p hp; simp only [List.mem_cons, List.not_mem_nil, or_false] at hp; rcases hp with rfl; exact h57
  ·intro l o hd
   simp only [dec89] at hd
   split at hd
   ·obtain rfl := oij hd; exact ⟨rfl, rfl⟩
   ·cases hd
 ·cases hx
def E68c89 (a89 : Wm0T35) : Env := mkE TI TY [(89, F89 a89)] nrc nfz
noncomputable def c68c89 : Code := bodyOf Try.f68
def nm68c89_0 : Norm := ⟨[0, 1, 7, 8], [], [], []⟩
def lv68c89 : Nat → Option Norm := norms [(2, nm68c89_0)]
def en68c89 : End := ⟨[], ⟨[19], [], [], []⟩⟩
def dec68c89 (l : List TV) (o : List (Nat × TO)) : Option (Int) := match l, o with | [.dv (.int .i64) x0], [] => some (x0) | _, _ => none
def Sl68c89a (s0 : List Int) (t8_a : Int) : TS := ⟨slots 19 [(0, .dv (.sl (.int .i64)) s0), (1, .fn 89 0 0 fun i => ([] : List TV).getD i .any), (7, .dv (.int .i64) (s0.length : Int)), (8, .dv (.int .i64) t8_a)], []⟩
noncomputable def K68c89_0 (a89 : Wm0T35) (N : Nat) : Kont (Int) := kont (E68c89 a89) lv68c89 N c68c89 [1, 0, 1, 0] (fin TI en68c89 (resOf Try.f68) dec68c89)
noncomputable def R68c89_0 (a89 : Wm0T35) (N : Nat) (m : Nat) : TS → Option (Int) := loopK (den (E68c89 a89) lv68c89 N (sub c68c89 [1, 0, 1, 0, 0])) (TS.norm nm68c89_0) (K68c89_0 a89 N) m
def l68c89a (a89 : Wm0T35) (N : Nat) (s0 : List Int) : Nat → Int → Option (Int)
 | 0, _ => none
 | n + 1, t8_a => cond (decide (t8_a < (s0.length : Int))) (chk (decide (0 ≤ t8_a ∧ t8_a < (s0.length : Int))) ((a89 (s0.getD t8_a.toNat (0 : Int))).bind fun r1 =>
   cond (r1) (some t8_a)
   ((l68c89a a89 N s0 n (w64 (t8_a + (1 : Int)))))))
   (some (-1 : Int))
theorem wl68c89a (a89 : Wm0T35) (N : Nat) (s0 : List Int) (m : Nat) (t8_a : Int) : R68c89_0 a89 N (m + 1) (Sl68c89a s0 t8_a) = cond (decide (t8_a < (s0.length : Int))) (chk (decide (0 ≤ t8_a ∧ t8_a < (s0.length : Int))) ((a89 (s0.getD t8_a.toNat (0 : Int))).bind fun r1 =>
   cond (r1) (some t8_a)
   ((R68c89_0 a89 N m (Sl68c89a s0 (w64 (t8_a + (1 : Int))))))))
   (some (-1 : Int)) := by kernel_rfl
theorem ql68c89a (a89 : Wm0T35) (N : Nat) (s0 : List Int) : ∀ (m : Nat) (t8_a : Int), R68c89_0 a89 N m (Sl68c89a s0 t8_a) = l68c89a a89 N s0 m t8_a
        | 0, _ => rfl
        | m + 1, t8_a => by rw [wl68c89a]; simp only [l68c89a, ql68c89a a89 N s0 m]
def m68c89 (a89 : Wm0T35) (N : Nat) (s0 : List Int) : Option (Int) :=
   (l68c89a a89 N s0 N (0 : Int))
theorem wm68c89 (a89 : Wm0T35) (N : Nat) (s0 : List Int) : callF (E68c89 a89) lv68c89 N en68c89 c68c89 (resOf Try.f68) 17 [.dv (.sl (.int .i64)) s0, .fn 89 0 0 fun i => ([] : List TV).getD i .any] [] dec68c89 = (R68c89_0 a89 N N (Sl68c89a s0 (0 : Int))) := by kernel_rfl
theorem k68c89 (a89 : Wm0T35) (N : Nat) (s0 : List Int) : callF (E68c89 a89) lv68c89 N en68c89 c68c89 (resOf Try.f68) 17 [.dv (.sl (.int .i64)) s0, .fn 89 0 0 fun i => ([] : List TV).getD i .any] [] dec68c89 = m68c89 a89 N s0 := by rw [wm68c89]; simp only [m68c89, ql68c89a]
theorem ok68c89 (a89 : Wm0T35) (h89 : FnOk Try.prog 89 (F89 a89)) (a : (List Int) → Option (Int)) (h : ∀ s0 r, a s0 = some r → (∃ N, m68c89 a89 N s0 = some r)) : FnOk Try.prog 68 (F68c89 a) := by
 intro args Of x hx
 simp only [F68c89] at hx
 split at hx
 ·rename_i s0 f_0 heqc
  have hc0 := congrArg (fun c : List (List TV) => c.getD 0 []) heqc
  obtain ⟨N, hN⟩ := h _ _ hx
  refine HSpec.etaL (args := [.dv (.sl (.int .i64)) s0, .fn 89 0 0 fun i => ([] : List TV).getD i .any]) (O := []) ⟨TV.sim_refl _, TV.sim_fn hc0, trivial⟩ trivial (lifted (L := [(89, F89 a89)]) (rc := nrc) (fz := nfz) (fn := Try.f68) (by kernel_rfl) (by kernel_rfl) (by kernel_rfl) (by kernel_rfl) rfl ?_ ((k68c89 a89 N _).trans hN) ?_)
  ·intro p hp; simp only [List.mem_cons, List.not_mem_nil, or_false] at hp; rcases hp with rfl; exact h89
  ·intro l o hd
   simp only [dec68c89] at hd
   split at hd
   ·obtain rfl := oij hd; exact ⟨rfl, rfl⟩
   ·cases hd
 ·cases hx
def E33c89 (a68c89 : Wm0T25) : Env := mkE TI TY [(68, F68c89 a68c89)] nrc nfz
noncomputable def c33c89 : Code := bodyOf Try.f33
def lv33c89 : Nat → Option Norm := norms []
def en33c89 : End := ⟨[], ⟨[9], [], [], []⟩⟩
def dec33c89 (l : List TV) (o : List (Nat × TO)) : Option (Bool) := match l, o with | [.dv (.bool) x0], [] => some (x0) | _, _ => none
def m33c89 (a68c89 : Wm0T25) (N : Nat) (s0 : List Int) : Option (Bool) :=
   (a68c89 s0).bind fun r1 =>
   some (decide (r1 ≥ (0 : Int)))
theorem k33c89 (a68c89 : Wm0T25) (N : Nat) (s0 : List Int) : callF (E33c89 a68c89) lv33c89 N en33c89 c33c89 (resOf Try.f33) 7 [.dv (.sl (.int .i64)) s0, .fn 89 0 0 fun i => ([] : List TV).getD i .any] [] dec33c89 = m33c89 a68c89 N s0 := by kernel_rfl
theorem ok33c89 (a68c89 : Wm0T25) (h68c89 : FnOk Try.prog 68 (F68c89 a68c89)) (a : (List Int) → Option (Bool)) (h : ∀ s0 r, a s0 = some r → (∃ N, m33c89 a68c89 N s0 = some r)) : FnOk Try.prog 33 (F33c89 a) := by
 intro args Of x hx
 simp only [F33c89] at hx
 split at hx
 ·rename_i s0 f_0 heqc
  have hc0 := congrArg (fun c : List (List TV) => c.getD 0 []) heqc
  obtain ⟨N, hN⟩ := h _ _ hx
  refine HSpec.etaL (args := [.dv (.sl (.int .i64)) s0, .fn 89 0 0 fun i => ([] : List TV).getD i .any]) (O := []) ⟨TV.sim_refl _, TV.sim_fn hc0, trivial⟩ trivial (lifted (L := [(68, F68c89 a68c89)]) (rc := nrc) (fz := nfz) (fn := Try.f33) (by kernel_rfl) (by kernel_rfl) (by kernel_rfl) (by kernel_rfl) rfl ?_ ((k33c89 a68c89 N _).trans hN) ?_)
  ·intro p hp; simp only [List.mem_cons, List.not_mem_nil, or_false] at hp; rcases hp with rfl; exact h68c89
  ·intro l o hd
   simp only [dec33c89] at hd
   split at hd
   ·obtain rfl := oij hd; exact ⟨rfl, rfl⟩
   ·cases hd
 ·cases hx
def E56 (a31c88 : Wm0T36) (a33c89 : (List Int) → Option (Bool)) (a34 : Wm0T10) (a57 : Wm0T0) : Env := mkE TI TY [(31, F31c88 a31c88), (33, F33c89 a33c89), (34, F34 a34), (57, F57 a57)] nrc nfz
noncomputable def c56 : Code := bodyOf Try.f56
def lv56 : Nat → Option Norm := norms []
def en56 : End := ⟨[], ⟨[27], [], [], []⟩⟩
def dec56 (l : List TV) (o : List (Nat × TO)) : Option (Int) := match l, o with | [.dv (.int .i64) x0], [] => some (x0) | _, _ => none
def m56 (a31c88 : Wm0T36) (a33c89 : (List Int) → Option (Bool)) (a34 : Wm0T10) (a57 : Wm0T0) (N : Nat) (work0 : List (List Int)) : Option (Int) :=
   cond ((work0.length : Int) == (0 : Int)) (some (1 : Int))
   (cond (decide ((work0.length : Int) > (6 : Int))) (some (2 : Int))
   (chk (decide (0 ≤ (0 : Int) ∧ (0 : Int) < (work0.length : Int))) ((a57 (1 : Int) ((work0.getD 0 ([] : List Int)).length : Int) (6 : Int)).bind fun r1 =>
   cond (!r1) (some (3 : Int))
   ((a31c88 work0 work0).bind fun r2 =>
   cond (r2.1) (some (3 : Int))
   ((a34 r2.2).bind fun r3 =>
   (a33c89 r3).bind fun r4 =>
   cond (r4) (some (4 : Int))
   (some (0 : Int)))))))
theorem k56 (a31c88 : Wm0T36) (a33c89 : (List Int) → Option (Bool)) (a34 : Wm0T10) (a57 : Wm0T0) (N : Nat) (work0 : List (List Int)) : callF (E56 a31c88 a33c89 a34 a57) lv56 N en56 c56 (resOf Try.f56) 26 [.dv (.sl (.sl (.int .i64))) work0] [] dec56 = m56 a31c88 a33c89 a34 a57 N work0 := by kernel_rfl
theorem ok56 (a31c88 : Wm0T36) (a33c89 : (List Int) → Option (Bool)) (a34 : Wm0T10) (a57 : Wm0T0) (h31c88 : FnOk Try.prog 31 (F31c88 a31c88)) (h33c89 : FnOk Try.prog 33 (F33c89 a33c89)) (h34 : FnOk Try.prog 34 (F34 a34)) (h57 : FnOk Try.prog 57 (F57 a57)) (a : (List (List Int)) → Option (Int)) (h : ∀ work0 r, a work0 = some r → (∃ N, m56 a31c88 a33c89 a34 a57 N work0 = some r)) : FnOk Try.prog 56 (F56 a) := by
 intro args Of x hx
 simp only [F56] at hx
 split at hx
 ·rename_i work0
  obtain ⟨N, hN⟩ := h _ _ hx
  refine lifted (L := [(31, F31c88 a31c88), (33, F33c89 a33c89), (34, F34 a34), (57, F57 a57)]) (rc := nrc) (fz := nfz) (fn := Try.f56) (by kernel_rfl) (by kernel_rfl) (by kernel_rfl) (by kernel_rfl) rfl ?_ ((k56 a31c88 a33c89 a34 a57 N _).trans hN) ?_
  ·intro p hp; simp only [List.mem_cons, List.not_mem_nil, or_false] at hp; rcases hp with rfl | rfl | rfl | rfl
   ·exact h31c88
   ·exact h33c89
   ·exact h34
   ·exact h57
  ·intro l o hd
   simp only [dec56] at hd
   split at hd
   ·obtain rfl := oij hd; exact ⟨rfl, rfl⟩
   ·cases hd
 ·cases hx
def E23 (a56 : Wm0T13) (a57 : Wm0T0) : Env := mkE TI TY [(56, F56 a56), (57, F57 a57)] nrc nfz
noncomputable def c23 : Code := bodyOf Try.f23
def lv23 : Nat → Option Norm := norms []
def en23 : End := ⟨[], ⟨[16], [], [], []⟩⟩
def dec23 (l : List TV) (o : List (Nat × TO)) : Option (Int) := match l, o with | [.dv (.int .i64) x0], [] => some (x0) | _, _ => none
def m23 (a56 : Wm0T13) (a57 : Wm0T0) (N : Nat) (work0 : List (List Int)) (seats1 : Int) : Option (Int) :=
   (a56 work0).bind fun r1 =>
   cond (r1 == (0 : Int)) ((a57 (1 : Int) seats1 (6 : Int)).bind fun r2 =>
   cond (!r2) (some (4 : Int))
   (some r1))
   (some r1)
theorem k23 (a56 : Wm0T13) (a57 : Wm0T0) (N : Nat) (work0 : List (List Int)) (seats1 : Int) : callF (E23 a56 a57) lv23 N en23 c23 (resOf Try.f23) 14 [.dv (.sl (.sl (.int .i64))) work0, .dv (.int .i64) seats1] [] dec23 = m23 a56 a57 N work0 seats1 := by kernel_rfl
theorem ok23 (a56 : Wm0T13) (a57 : Wm0T0) (h56 : FnOk Try.prog 56 (F56 a56)) (h57 : FnOk Try.prog 57 (F57 a57)) (a : (List (List Int)) → Int → Option (Int)) (h : ∀ work0 seats1 r, a work0 seats1 = some r → (∃ N, m23 a56 a57 N work0 seats1 = some r)) : FnOk Try.prog 23 (F23 a) := by
 intro args Of x hx
 simp only [F23] at hx
 split at hx
 ·rename_i work0 seats1
  obtain ⟨N, hN⟩ := h _ _ _ hx
  refine lifted (L := [(56, F56 a56), (57, F57 a57)]) (rc := nrc) (fz := nfz) (fn := Try.f23) (by kernel_rfl) (by kernel_rfl) (by kernel_rfl) (by kernel_rfl) rfl ?_ ((k23 a56 a57 N _ _).trans hN) ?_
  ·intro p hp; simp only [List.mem_cons, List.not_mem_nil, or_false] at hp; rcases hp with rfl | rfl
   ·exact h56
   ·exact h57
  ·intro l o hd
   simp only [dec23] at hd
   split at hd
   ·obtain rfl := oij hd; exact ⟨rfl, rfl⟩
   ·cases hd
 ·cases hx
def E63 : Env := mkE TI TY [] nrc nfz
noncomputable def c63 : Code := bodyOf Try.f63
def lv63 : Nat → Option Norm := norms []
def en63 : End := ⟨[], ⟨[4], [], [], []⟩⟩
def dec63 (l : List TV) (o : List (Nat × TO)) : Option (Int) := match l, o with | [.dv (.int .i64) x0], [] => some (x0) | _, _ => none
def m63 (N : Nat) (n0 : Int) : Option (Int) :=
   some n0
theorem k63 (N : Nat) (n0 : Int) : callF (E63) lv63 N en63 c63 (resOf Try.f63) 3 [.dv (.int .i64) n0] [] dec63 = m63 N n0 := by kernel_rfl
theorem ok63 (a : Int → Option (Int)) (h : ∀ n0 r, a n0 = some r → (∃ N, m63 N n0 = some r)) : FnOk Try.prog 63 (F63 a) := by
 intro args Of x hx
 simp only [F63] at hx
 split at hx
 ·rename_i n0
  obtain ⟨N, hN⟩ := h _ _ hx
  refine lifted (L := []) (rc := nrc) (fz := nfz) (fn := Try.f63) (by kernel_rfl) (by kernel_rfl) (by kernel_rfl) (by kernel_rfl) rfl ?_ ((k63 N _).trans hN) ?_
  ·intro p hp; cases hp
  ·intro l o hd
   simp only [dec63] at hd
   split at hd
   ·obtain rfl := oij hd; exact ⟨rfl, rfl⟩
   ·cases hd
 ·cases hx
def E62c63 (a63 : Wm0T37) : Env := mkE TI TY [(63, F63 a63)] nrc nfz
noncomputable def c62c63 : Code := bodyOf Try.f62
def nm62c63_0 : Norm := ⟨[1, 5, 8, 9, 10], [], [], []⟩
def lv62c63 : Nat → Option Norm := norms [(3, nm62c63_0)]
def en62c63 : End := ⟨[], ⟨[21], [], [], []⟩⟩
def dec62c63 (l : List TV) (o : List (Nat × TO)) : Option (Int) := match l, o with | [.dv (.int .i64) x0], [] => some (x0) | _, _ => none
def Sl62c63a (lx0 : List Int) (n5_a : Int) (t10_a : Int) : TS := ⟨slots 21 [(1, .fn 63 0 0 fun i => ([] : List TV).getD i .any), (5, .dv (.int .i64) n5_a), (8, .dv (.sl (.int .i64)) lx0), (9, .dv (.int .i64) (lx0.length : Int)), (10, .dv (.int .i64) t10_a)], []⟩
noncomputable def K62c63_0 (a63 : Wm0T37) (N : Nat) : Kont (Int) := kont (E62c63 a63) lv62c63 N c62c63 [1, 1, 0, 1, 0] (fin TI en62c63 (resOf Try.f62) dec62c63)
noncomputable def R62c63_0 (a63 : Wm0T37) (N : Nat) (m : Nat) : TS → Option (Int) := loopK (den (E62c63 a63) lv62c63 N (sub c62c63 [1, 1, 0, 1, 0, 0])) (TS.norm nm62c63_0) (K62c63_0 a63 N) m
def l62c63a (a63 : Wm0T37) (N : Nat) (lx0 : List Int) : Nat → Int → Int → Option (Int)
 | 0, _, _ => none
 | n + 1, n5_a, t10_a => cond (decide (t10_a < (lx0.length : Int))) (chk (decide (0 ≤ t10_a ∧ t10_a < (lx0.length : Int))) ((a63 (lx0.getD t10_a.toNat (0 : Int))).bind fun r1 =>
   (l62c63a a63 N lx0 n (w64 (n5_a + r1)) (w64 (t10_a + (1 : Int))))))
   (some n5_a)
theorem wl62c63a (a63 : Wm0T37) (N : Nat) (lx0 : List Int) (m : Nat) (n5_a : Int) (t10_a : Int) : R62c63_0 a63 N (m + 1) (Sl62c63a lx0 n5_a t10_a) = cond (decide (t10_a < (lx0.length : Int))) (chk (decide (0 ≤ t10_a ∧ t10_a < (lx0.length : Int))) ((a63 (lx0.getD t10_a.toNat (0 : Int))).bind fun r1 =>
   (R62c63_0 a63 N m (Sl62c63a lx0 (w64 (n5_a + r1)) (w64 (t10_a + (1 : Int)))))))
   (some n5_a) := by kernel_rfl
theorem ql62c63a (a63 : Wm0T37) (N : Nat) (lx0 : List Int) : ∀ (m : Nat) (n5_a : Int) (t10_a : Int), R62c63_0 a63 N m (Sl62c63a lx0 n5_a t10_a) = l62c63a a63 N lx0 m n5_a t10_a
        | 0, _, _ => rfl
        | m + 1, n5_a, t10_a => by rw [wl62c63a]; simp only [l62c63a, ql62c63a a63 N lx0 m]
def m62c63 (a63 : Wm0T37) (N : Nat) (lx0 : List Int) : Option (Int) :=
   (l62c63a a63 N lx0 N (0 : Int) (0 : Int))
theorem wm62c63 (a63 : Wm0T37) (N : Nat) (lx0 : List Int) : callF (E62c63 a63) lv62c63 N en62c63 c62c63 (resOf Try.f62) 19 [.dv (.sl (.int .i64)) lx0, .fn 63 0 0 fun i => ([] : List TV).getD i .any] [] dec62c63 = (R62c63_0 a63 N N (Sl62c63a lx0 (0 : Int) (0 : Int))) := by kernel_rfl
theorem k62c63 (a63 : Wm0T37) (N : Nat) (lx0 : List Int) : callF (E62c63 a63) lv62c63 N en62c63 c62c63 (resOf Try.f62) 19 [.dv (.sl (.int .i64)) lx0, .fn 63 0 0 fun i => ([] : List TV).getD i .any] [] dec62c63 = m62c63 a63 N lx0 := by rw [wm62c63]; simp only [m62c63, ql62c63a]
theorem ok62c63 (a63 : Wm0T37) (h63 : FnOk Try.prog 63 (F63 a63)) (a : (List Int) → Option (Int)) (h : ∀ lx0 r, a lx0 = some r → (∃ N, m62c63 a63 N lx0 = some r)) : FnOk Try.prog 62 (F62c63 a) := by
 intro args Of x hx
 simp only [F62c63] at hx
 split at hx
 ·rename_i lx0 f_0 heqc
  have hc0 := congrArg (fun c : List (List TV) => c.getD 0 []) heqc
  obtain ⟨N, hN⟩ := h _ _ hx
  refine HSpec.etaL (args := [.dv (.sl (.int .i64)) lx0, .fn 63 0 0 fun i => ([] : List TV).getD i .any]) (O := []) ⟨TV.sim_refl _, TV.sim_fn hc0, trivial⟩ trivial (lifted (L := [(63, F63 a63)]) (rc := nrc) (fz := nfz) (fn := Try.f62) (by kernel_rfl) (by kernel_rfl) (by kernel_rfl) (by kernel_rfl) rfl ?_ ((k62c63 a63 N _).trans hN) ?_)
  ·intro p hp; simp only [List.mem_cons, List.not_mem_nil, or_false] at hp; rcases hp with rfl; exact h63
  ·intro l o hd
   simp only [dec62c63] at hd
   split at hd
   ·obtain rfl := oij hd; exact ⟨rfl, rfl⟩
   ·cases hd
 ·cases hx
def E65c : Env := mkE TI TY [] nrc nfz
noncomputable def c65c : Code := bodyOf Try.f65
def lv65c : Nat → Option Norm := norms []
def en65c : End := ⟨[], ⟨[8], [9000], [], []⟩⟩
def dec65c (l : List TV) (o : List (Nat × TO)) : Option (Int × Int) := match l, o with | [.dv (.int .i64) x0], [(9000, .rcd [.dv (.int .i64) x1])] => some (x0, x1) | _, _ => none
def m65c (N : Nat) (lx0 : List Int) (p1 : Int) : Option (Int × Int) :=
   chk (decide (0 ≤ p1 ∧ p1 < (lx0.length : Int))) (some (lx0.getD p1.toNat (0 : Int), p1))
theorem k65c (N : Nat) (lx0 : List Int) (p1 : Int) : callF (E65c) lv65c N en65c c65c (resOf Try.f65) 6 [.dv (.sl (.int .i64)) lx0, .ptr 9000 0 [0]] [(9000, .rcd [.dv (.int .i64) p1])] dec65c = m65c N lx0 p1 := by kernel_rfl
theorem ok65c (a : (List Int) → Int → Option (Int × Int)) (h : ∀ lx0 p1 r, a lx0 p1 = some r → (∃ N, m65c N lx0 p1 = some r)) : FnOk Try.prog 65 (F65c a) := by
 intro args Of x hx
 simp only [F65c] at hx
 split at hx
 ·rename_i lx0 p1
  obtain ⟨N, hN⟩ := h _ _ _ hx
  refine lifted (L := []) (rc := nrc) (fz := nfz) (fn := Try.f65) (by kernel_rfl) (by kernel_rfl) (by kernel_rfl) (by kernel_rfl) rfl ?_ ((k65c N _ _).trans hN) ?_
  ·intro p hp; cases hp
  ·intro l o hd
   simp only [dec65c] at hd
   split at hd
   ·obtain rfl := oij hd; exact ⟨rfl, rfl⟩
   ·cases hd
 ·cases hx
def E64c65 (a65c : Wm0T7) : Env := mkE TI TY [(65, F65c a65c)] nrc nfz
noncomputable def c64c65 : Code := bodyOf Try.f64
def nm64c65_0 : Norm := ⟨[1, 5, 8, 9, 10], [9000], [], []⟩
def lv64c65 : Nat → Option Norm := norms [(3, nm64c65_0)]
def en64c65 : End := ⟨[], ⟨[21], [9000], [], []⟩⟩
def dec64c65 (l : List TV) (o : List (Nat × TO)) : Option (Int × Int) := match l, o with | [.dv (.int .i64) x0], [(9000, .rcd [.dv (.int .i64) x1])] => some (x0, x1) | _, _ => none
def Sl64c65a (lx0 : List (List Int)) (n5_a : Int) (t10_a : Int) (o9000_af0 : Int) : TS := ⟨slots 21 [(1, .fn 65 0 1 fun i => ([.ptr 9000 0 [0]] : List TV).getD i .any), (5, .dv (.int .i64) n5_a), (8, .dv (.sl (.sl (.int .i64))) lx0), (9, .dv (.int .i64) (lx0.length : Int)), (10, .dv (.int .i64) t10_a)], [(9000, .rcd [.dv (.int .i64) o9000_af0])]⟩
noncomputable def K64c65_0 (a65c : Wm0T7) (N : Nat) : Kont (Int × Int) := kont (E64c65 a65c) lv64c65 N c64c65 [1, 1, 0, 1, 0] (fin TI en64c65 (resOf Try.f64) dec64c65)
noncomputable def R64c65_0 (a65c : Wm0T7) (N : Nat) (m : Nat) : TS → Option (Int × Int) := loopK (den (E64c65 a65c) lv64c65 N (sub c64c65 [1, 1, 0, 1, 0, 0])) (TS.norm nm64c65_0) (K64c65_0 a65c N) m
def l64c65a (a65c : Wm0T7) (N : Nat) (lx0 : List (List Int)) : Nat → Int → Int → Int → Option (Int × Int)
 | 0, _, _, _ => none
 | n + 1, n5_a, t10_a, o9000_af0 => cond (decide (t10_a < (lx0.length : Int))) (chk (decide (0 ≤ t10_a ∧ t10_a < (lx0.length : Int))) ((a65c (lx0.getD t10_a.toNat ([] : List Int)) o9000_af0).bind fun r1 =>
   (l64c65a a65c N lx0 n (w64 (n5_a + r1.1)) (w64 (t10_a + (1 : Int))) r1.2)))
   (some (n5_a, o9000_af0))
theorem wl64c65a (a65c : Wm0T7) (N : Nat) (lx0 : List (List Int)) (m : Nat) (n5_a : Int) (t10_a : Int) (o9000_af0 : Int) : R64c65_0 a65c N (m + 1) (Sl64c65a lx0 n5_a t10_a o9000_af0) = cond (decide (t10_a < (lx0.length : Int))) (chk (decide (0 ≤ t10_a ∧ t10_a < (lx0.length : Int))) ((a65c (lx0.getD t10_a.toNat ([] : List Int)) o9000_af0).bind fun r1 =>
   (R64c65_0 a65c N m (Sl64c65a lx0 (w64 (n5_a + r1.1)) (w64 (t10_a + (1 : Int))) r1.2))))
   (some (n5_a, o9000_af0)) := by kernel_rfl
theorem ql64c65a (a65c : Wm0T7) (N : Nat) (lx0 : List (List Int)) : ∀ (m : Nat) (n5_a : Int) (t10_a : Int) (o9000_af0 : Int), R64c65_0 a65c N m (Sl64c65a lx0 n5_a t10_a o9000_af0) = l64c65a a65c N lx0 m n5_a t10_a o9000_af0
        | 0, _, _, _ => rfl
        | m + 1, n5_a, t10_a, o9000_af0 => by rw [wl64c65a]; simp only [l64c65a, ql64c65a a65c N lx0 m]
def m64c65 (a65c : Wm0T7) (N : Nat) (lx0 : List (List Int)) (p1 : Int) : Option (Int × Int) :=
   (l64c65a a65c N lx0 N (0 : Int) (0 : Int) p1)
theorem wm64c65 (a65c : Wm0T7) (N : Nat) (lx0 : List (List Int)) (p1 : Int) : callF (E64c65 a65c) lv64c65 N en64c65 c64c65 (resOf Try.f64) 19 [.dv (.sl (.sl (.int .i64))) lx0, .fn 65 0 1 fun i => ([.ptr 9000 0 [0]] : List TV).getD i .any] [(9000, .rcd [.dv (.int .i64) p1])] dec64c65 = (R64c65_0 a65c N N (Sl64c65a lx0 (0 : Int) (0 : Int) p1)) := by kernel_rfl
theorem k64c65 (a65c : Wm0T7) (N : Nat) (lx0 : List (List Int)) (p1 : Int) : callF (E64c65 a65c) lv64c65 N en64c65 c64c65 (resOf Try.f64) 19 [.dv (.sl (.sl (.int .i64))) lx0, .fn 65 0 1 fun i => ([.ptr 9000 0 [0]] : List TV).getD i .any] [(9000, .rcd [.dv (.int .i64) p1])] dec64c65 = m64c65 a65c N lx0 p1 := by rw [wm64c65]; simp only [m64c65, ql64c65a]
theorem ok64c65 (a65c : Wm0T7) (h65c : FnOk Try.prog 65 (F65c a65c)) (a : (List (List Int)) → Int → Option (Int × Int)) (h : ∀ lx0 p1 r, a lx0 p1 = some r → (∃ N, m64c65 a65c N lx0 p1 = some r)) : FnOk Try.prog 64 (F64c65 a) := by
 intro args Of x hx
 simp only [F64c65] at hx
 split at hx
 ·rename_i lx0 f_0 p1 heqc
  have hc0 := congrArg (fun c : List (List TV) => c.getD 0 []) heqc
  obtain ⟨N, hN⟩ := h _ _ _ hx
  refine HSpec.etaL (args := [.dv (.sl (.sl (.int .i64))) lx0, .fn 65 0 1 fun i => ([.ptr 9000 0 [0]] : List TV).getD i .any]) (O := [(9000, .rcd [.dv (.int .i64) p1])]) ⟨TV.sim_refl _, TV.sim_fn hc0, trivial⟩ ⟨rfl, TO.sim_refl _, trivial⟩ (lifted (L := [(65, F65c a65c)]) (rc := nrc) (fz := nfz) (fn := Try.f64) (by kernel_rfl) (by kernel_rfl) (by kernel_rfl) (by kernel_rfl) rfl ?_ ((k64c65 a65c N _ _).trans hN) ?_)
  ·intro p hp; simp only [List.mem_cons, List.not_mem_nil, or_false] at hp; rcases hp with rfl; exact h65c
  ·intro l o hd
   simp only [dec64c65] at hd
   split at hd
   ·obtain rfl := oij hd; exact ⟨rfl, rfl⟩
   ·cases hd
 ·cases hx
def E25 (a62c63 : Wm0T25) (a64c65 : Wm0T5) : Env := mkE TI TY [(62, F62c63 a62c63), (64, F64c65 a64c65)] nrc nfz
noncomputable def c25 : Code := bodyOf Try.f25
def nm25_0 : Norm := ⟨[0, 3, 7, 8, 9], [], [(.slot 2, 1002, .int .i64)], []⟩
def nm25_1 : Norm := ⟨[0, 2, 22, 23], [1002], [(.slot 3, 1003, .int .i64)], []⟩
def lv25 : Nat → Option Norm := norms [(2, nm25_0), (7, nm25_1)]
def en25 : End := ⟨[], ⟨[], [], [(.slot 35, 1500, .int .i64), (.slot 36, 1501, .int .i64)], []⟩⟩
def dec25 (l : List TV) (o : List (Nat × TO)) : Option (List Int × List Int) := match l, o with | [.row 1500, .row 1501], [(1500, .row (.int .i64) x0), (1501, .row (.int .i64) x1)] => some (x0, x1) | _, _ => none
def Sl25b (work0 : List (List Int)) (artists2_a : List Int) (t23_b : Int) (machines3_b : List Int) : TS := ⟨slots 35 [(0, .dv (.sl (.sl (.int .i64))) work0), (2, .row 1002), (3, .row 1003), (22, .dv (.int .i64) ((work0.getD 0 ([] : List Int)).length : Int)), (23, .dv (.int .i64) t23_b)], [(1003, .row (.int .i64) machines3_b), (1002, .row (.int .i64) artists2_a)]⟩
def Sl25a (work0 : List (List Int)) (t9_a : Int) (artists2_a : List Int) : TS := ⟨slots 35 [(0, .dv (.sl (.sl (.int .i64))) work0), (2, .row 1002), (3, .nl), (7, .dv (.sl (.sl (.int .i64))) work0), (8, .dv (.int .i64) (work0.length : Int)), (9, .dv (.int .i64) t9_a)], [(1002, .row (.int .i64) artists2_a)]⟩
noncomputable def K25_0 (a62c63 : Wm0T25) (a64c65 : Wm0T5) (N : Nat) : Kont (List Int × List Int) := kont (E25 a62c63 a64c65) lv25 N c25 [1, 0, 1, 0] (fin TI en25 (resOf Try.f25) dec25)
noncomputable def R25_0 (a62c63 : Wm0T25) (a64c65 : Wm0T5) (N : Nat) (m : Nat) : TS → Option (List Int × List Int) := loopK (den (E25 a62c63 a64c65) lv25 N (sub c25 [1, 0, 1, 0, 0])) (TS.norm nm25_0) (K25_0 a62c63 a64c65 N) m
noncomputable def K25_1 (a62c63 : Wm0T25) (a64c65 : Wm0T5) (N : Nat) : Kont (List Int × List Int) := kont (E25 a62c63 a64c65) lv25 N c25 [1, 1, 0, 1, 0] (fin TI en25 (resOf Try.f25) dec25)
noncomputable def R25_1 (a62c63 : Wm0T25) (a64c65 : Wm0T5) (N : Nat) (m : Nat) : TS → Option (List Int × List Int) := loopK (den (E25 a62c63 a64c65) lv25 N (sub c25 [1, 1, 0, 1, 0, 0])) (TS.norm nm25_1) (K25_1 a62c63 a64c65 N) m
def l25b (a62c63 : Wm0T25) (a64c65 : Wm0T5) (N : Nat) (work0 : List (List Int)) (artists2_a : List Int) : Nat → Int → (List Int) → Option (List Int × List Int)
 | 0, _, _ => none
 | n + 1, t23_b, machines3_b => cond (decide (t23_b < ((work0.getD 0 ([] : List Int)).length : Int))) ((a64c65 work0 t23_b).bind fun r2 =>
   chk (small (machines3_b.length + 1) 8) ((l25b a62c63 a64c65 N work0 artists2_a n (w64 (t23_b + (1 : Int))) (machines3_b ++ ([r2.1] : List Int)))))
   (some (artists2_a, machines3_b))
theorem wl25b (a62c63 : Wm0T25) (a64c65 : Wm0T5) (N : Nat) (work0 : List (List Int)) (artists2_a : List Int) (m : Nat) (t23_b : Int) (machines3_b : List Int) : R25_1 a62c63 a64c65 N (m + 1) (Sl25b work0 artists2_a t23_b machines3_b) = cond (decide (t23_b < ((work0.getD 0 ([] : List Int)).length : Int))) ((a64c65 work0 t23_b).bind fun r2 =>
   chk (small (machines3_b.length + 1) 8) ((R25_1 a62c63 a64c65 N m (Sl25b work0 artists2_a (w64 (t23_b + (1 : Int))) (machines3_b ++ ([r2.1] : List Int))))))
   (some (artists2_a, machines3_b)) := by kernel_rfl
theorem ql25b (a62c63 : Wm0T25) (a64c65 : Wm0T5) (N : Nat) (work0 : List (List Int)) (artists2_a : List Int) : ∀ (m : Nat) (t23_b : Int) (machines3_b : List Int), R25_1 a62c63 a64c65 N m (Sl25b work0 artists2_a t23_b machines3_b) = l25b a62c63 a64c65 N work0 artists2_a m t23_b machines3_b
        | 0, _, _ => rfl
        | m + 1, t23_b, machines3_b => by rw [wl25b]; simp only [l25b, ql25b a62c63 a64c65 N work0 artists2_a m]
def l25a (a62c63 : Wm0T25) (a64c65 : Wm0T5) (N : Nat) (work0 : List (List Int)) : Nat → Int → (List Int) → Option (List Int × List Int)
 | 0, _, _ => none
 | n + 1, t9_a, artists2_a => cond (decide (t9_a < (work0.length : Int))) (chk (decide (0 ≤ t9_a ∧ t9_a < (work0.length : Int))) ((a62c63 (work0.getD t9_a.toNat ([] : List Int))).bind fun r1 =>
   chk (small (artists2_a.length + 1) 8) ((l25a a62c63 a64c65 N work0 n (w64 (t9_a + (1 : Int))) (artists2_a ++ ([r1] : List Int))))))
   (chk (decide (0 ≤ (0 : Int) ∧ (0 : Int) < (work0.length : Int))) ((l25b a62c63 a64c65 N work0 artists2_a N (0 : Int) ([] : List Int))))
theorem wl25a (a62c63 : Wm0T25) (a64c65 : Wm0T5) (N : Nat) (work0 : List (List Int)) (m : Nat) (t9_a : Int) (artists2_a : List Int) : R25_0 a62c63 a64c65 N (m + 1) (Sl25a work0 t9_a artists2_a) = cond (decide (t9_a < (work0.length : Int))) (chk (decide (0 ≤ t9_a ∧ t9_a < (work0.length : Int))) ((a62c63 (work0.getD t9_a.toNat ([] : List Int))).bind fun r1 =>
   chk (small (artists2_a.length + 1) 8) ((R25_0 a62c63 a64c65 N m (Sl25a work0 (w64 (t9_a + (1 : Int))) (artists2_a ++ ([r1] : List Int)))))))
   (chk (decide (0 ≤ (0 : Int) ∧ (0 : Int) < (work0.length : Int))) ((R25_1 a62c63 a64c65 N N (Sl25b work0 artists2_a (0 : Int) ([] : List Int))))) := by kernel_rfl
theorem ql25a (a62c63 : Wm0T25) (a64c65 : Wm0T5) (N : Nat) (work0 : List (List Int)) : ∀ (m : Nat) (t9_a : Int) (artists2_a : List Int), R25_0 a62c63 a64c65 N m (Sl25a work0 t9_a artists2_a) = l25a a62c63 a64c65 N work0 m t9_a artists2_a
        | 0, _, _ => rfl
        | m + 1, t9_a, artists2_a => by rw [wl25a]; simp only [l25a, ql25b, ql25a a62c63 a64c65 N work0 m]
def m25 (a62c63 : Wm0T25) (a64c65 : Wm0T5) (N : Nat) (work0 : List (List Int)) : Option (List Int × List Int) :=
   (l25a a62c63 a64c65 N work0 N (0 : Int) ([] : List Int))
theorem wm25 (a62c63 : Wm0T25) (a64c65 : Wm0T5) (N : Nat) (work0 : List (List Int)) : callF (E25 a62c63 a64c65) lv25 N en25 c25 (resOf Try.f25) 34 [.dv (.sl (.sl (.int .i64))) work0] [] dec25 = (R25_0 a62c63 a64c65 N N (Sl25a work0 (0 : Int) ([] : List Int))) := by kernel_rfl
theorem k25 (a62c63 : Wm0T25) (a64c65 : Wm0T5) (N : Nat) (work0 : List (List Int)) : callF (E25 a62c63 a64c65) lv25 N en25 c25 (resOf Try.f25) 34 [.dv (.sl (.sl (.int .i64))) work0] [] dec25 = m25 a62c63 a64c65 N work0 := by rw [wm25]; simp only [m25, ql25a]
theorem ok25 (a62c63 : Wm0T25) (a64c65 : Wm0T5) (h62c63 : FnOk Try.prog 62 (F62c63 a62c63)) (h64c65 : FnOk Try.prog 64 (F64c65 a64c65)) (a : (List (List Int)) → Option (List Int × List Int)) (h : ∀ work0 r, a work0 = some r → (∃ N, m25 a62c63 a64c65 N work0 = some r)) : FnOk Try.prog 25 (F25 a) := by
 intro args Of x hx
 simp only [F25] at hx
 split at hx
 ·rename_i work0
  obtain ⟨N, hN⟩ := h _ _ hx
  refine lifted (L := [(62, F62c63 a62c63), (64, F64c65 a64c65)]) (rc := nrc) (fz := nfz) (fn := Try.f25) (by kernel_rfl) (by kernel_rfl) (by kernel_rfl) (by kernel_rfl) rfl ?_ ((k25 a62c63 a64c65 N _).trans hN) ?_
  ·intro p hp; simp only [List.mem_cons, List.not_mem_nil, or_false] at hp; rcases hp with rfl | rfl
   ·exact h62c63
   ·exact h64c65
  ·intro l o hd
   simp only [dec25] at hd
   split at hd
   ·obtain rfl := oij hd; exact ⟨rfl, rfl⟩
   ·cases hd
 ·cases hx
def E24 (a25 : Wm0T38) : Env := mkE TI TY [(25, F25 a25)] (fun i => ([(5, [some (.sl (.int .i64))]), (6, [some (.sl (.int .i64))]), (15, [some (.int .i64), none]), (19, [some (.int .i64), none]), (21, [some (.int .i64), none]), (22, [])] : List (Nat × List (Option DT))).lookup i) nfz
noncomputable def c24 : Code := bodyOf Try.f24
def lv24 : Nat → Option Norm := norms []
def en24 : End := ⟨[], ⟨[23], [3, 5, 6, 22], [], []⟩⟩
def dec24 (l : List TV) (o : List (Nat × TO)) : Option (Int × List Int × List Int × Int × Int × Int) := match l, o, capsOf l o with | [.view 22 0 [] 2 3 0 3], [(3, .rcd [.dv (.int .i64) x0]), (5, .rcd [.dv (.sl (.int .i64)) x1]), (6, .rcd [.dv (.sl (.int .i64)) x2]), (22, .rcd [.dv (.int .i64) x3, .fn 58 0 1 _, .dv (.int .i64) x4, .fn 59 0 1 _, .dv (.int .i64) x5, .fn 60 0 2 _])], [[.ptr 5 0 [0]], [.ptr 6 0 [0]], [.ptr 5 0 [0], .ptr 3 0 [0]]] => some (x0, x1, x2, x3, x4, x5) | _, _, _ => none
def m24 (a25 : Wm0T38) (N : Nat) (work0 : List (List Int)) (seats1 : Int) : Option (Int × List Int × List Int × Int × Int × Int) :=
   (a25 work0).bind fun r1 =>
   some (seats1, r1.1, r1.2, (r1.1.length : Int), (r1.2.length : Int), (1 : Int))
theorem k24 (a25 : Wm0T38) (N : Nat) (work0 : List (List Int)) (seats1 : Int) : callF (E24 a25) lv24 N en24 c24 (resOf Try.f24) 21 [.dv (.sl (.sl (.int .i64))) work0, .dv (.int .i64) seats1] [] dec24 = m24 a25 N work0 seats1 := by kernel_rfl
theorem ok24 (a25 : Wm0T38) (h25 : FnOk Try.prog 25 (F25 a25)) (a : (List (List Int)) → Int → Option (Int × List Int × List Int × Int × Int × Int)) (h : ∀ work0 seats1 r, a work0 seats1 = some r → (∃ N, m24 a25 N work0 seats1 = some r)) : FnOk Try.prog 24 (F24 a) := by
 intro args Of x hx
 simp only [F24] at hx
 split at hx
 ·rename_i work0 seats1
  obtain ⟨N, hN⟩ := h _ _ _ hx
  refine liftedS (L := [(25, F25 a25)]) (rc := (fun i => ([(5, [some (.sl (.int .i64))]), (6, [some (.sl (.int .i64))]), (15, [some (.int .i64), none]), (19, [some (.int .i64), none]), (21, [some (.int .i64), none]), (22, [])] : List (Nat × List (Option DT))).lookup i)) (fz := nfz) (fn := Try.f24) (by kernel_rfl) (by kernel_rfl) (by kernel_rfl) (by kernel_rfl) rfl ?_ ((k24 a25 N _ _).trans hN) ?_
  ·intro p hp; simp only [List.mem_cons, List.not_mem_nil, or_false] at hp; rcases hp with rfl; exact h25
  ·intro l o hd
   simp only [dec24] at hd
   split at hd
   ·rename_i heqd
    have hd0 := congrArg (fun c : List (List TV) => c.getD 0 []) heqd
    have hd1 := congrArg (fun c : List (List TV) => c.getD 1 []) heqd
    have hd2 := congrArg (fun c : List (List TV) => c.getD 2 []) heqd
    obtain rfl := oij hd; exact ⟨TV.sim_refl _, ⟨rfl, TO.sim_refl _, rfl, TO.sim_refl _, rfl, TO.sim_refl _, rfl, TO.sim_rcd ⟨TV.sim_refl _, TV.sim_symm (TV.sim_fn hd0), TV.sim_refl _, TV.sim_symm (TV.sim_fn hd1), TV.sim_refl _, TV.sim_symm (TV.sim_fn hd2), trivial⟩, trivial⟩⟩
   ·cases hd
 ·cases hx
def E58c : Env := mkE TI TY [] nrc nfz
noncomputable def c58c : Code := bodyOf Try.f58
def lv58c : Nat → Option Norm := norms []
def en58c : End := ⟨[], ⟨[8], [9000], [], []⟩⟩
def dec58c (l : List TV) (o : List (Nat × TO)) : Option (Int × List Int) := match l, o with | [.dv (.int .i64) x0], [(9000, .rcd [.dv (.sl (.int .i64)) x1])] => some (x0, x1) | _, _ => none
def m58c (N : Nat) (i0 : Int) (p1 : List Int) : Option (Int × List Int) :=
   chk (decide (0 ≤ i0 ∧ i0 < (p1.length : Int))) (some (p1.getD i0.toNat (0 : Int), p1))
theorem k58c (N : Nat) (i0 : Int) (p1 : List Int) : callF (E58c) lv58c N en58c c58c (resOf Try.f58) 6 [.dv (.int .i64) i0, .ptr 9000 0 [0]] [(9000, .rcd [.dv (.sl (.int .i64)) p1])] dec58c = m58c N i0 p1 := by kernel_rfl
theorem ok58c (a : Int → (List Int) → Option (Int × List Int)) (h : ∀ i0 p1 r, a i0 p1 = some r → (∃ N, m58c N i0 p1 = some r)) : FnOk Try.prog 58 (F58c a) := by
 intro args Of x hx
 simp only [F58c] at hx
 split at hx
 ·rename_i i0 p1
  obtain ⟨N, hN⟩ := h _ _ _ hx
  refine lifted (L := []) (rc := nrc) (fz := nfz) (fn := Try.f58) (by kernel_rfl) (by kernel_rfl) (by kernel_rfl) (by kernel_rfl) rfl ?_ ((k58c N _ _).trans hN) ?_
  ·intro p hp; cases hp
  ·intro l o hd
   simp only [dec58c] at hd
   split at hd
   ·obtain rfl := oij hd; exact ⟨rfl, rfl⟩
   ·cases hd
 ·cases hx
def E59c : Env := mkE TI TY [] nrc nfz
noncomputable def c59c : Code := bodyOf Try.f59
def lv59c : Nat → Option Norm := norms []
def en59c : End := ⟨[], ⟨[8], [9000], [], []⟩⟩
def dec59c (l : List TV) (o : List (Nat × TO)) : Option (Int × List Int) := match l, o with | [.dv (.int .i64) x0], [(9000, .rcd [.dv (.sl (.int .i64)) x1])] => some (x0, x1) | _, _ => none
def m59c (N : Nat) (i0 : Int) (p1 : List Int) : Option (Int × List Int) :=
   chk (decide (0 ≤ i0 ∧ i0 < (p1.length : Int))) (some (p1.getD i0.toNat (0 : Int), p1))
theorem k59c (N : Nat) (i0 : Int) (p1 : List Int) : callF (E59c) lv59c N en59c c59c (resOf Try.f59) 6 [.dv (.int .i64) i0, .ptr 9000 0 [0]] [(9000, .rcd [.dv (.sl (.int .i64)) p1])] dec59c = m59c N i0 p1 := by kernel_rfl
theorem ok59c (a : Int → (List Int) → Option (Int × List Int)) (h : ∀ i0 p1 r, a i0 p1 = some r → (∃ N, m59c N i0 p1 = some r)) : FnOk Try.prog 59 (F59c a) := by
 intro args Of x hx
 simp only [F59c] at hx
 split at hx
 ·rename_i i0 p1
  obtain ⟨N, hN⟩ := h _ _ _ hx
  refine lifted (L := []) (rc := nrc) (fz := nfz) (fn := Try.f59) (by kernel_rfl) (by kernel_rfl) (by kernel_rfl) (by kernel_rfl) rfl ?_ ((k59c N _ _).trans hN) ?_
  ·intro p hp; cases hp
  ·intro l o hd
   simp only [dec59c] at hd
   split at hd
   ·obtain rfl := oij hd; exact ⟨rfl, rfl⟩
   ·cases hd
 ·cases hx
def E61 : Env := mkE TI TY [] nrc nfz
noncomputable def c61 : Code := bodyOf Try.f61
def lv61 : Nat → Option Norm := norms []
def en61 : End := ⟨[], ⟨[11], [], [], []⟩⟩
def dec61 (l : List TV) (o : List (Nat × TO)) : Option (Int) := match l, o with | [.dv (.int .i64) x0], [] => some (x0) | _, _ => none
def m61 (N : Nat) (ax0 : Int) (b1 : Int) : Option (Int) :=
   chk (decide (b1 ≠ (0 : Int))) (some (w64 (Int.tdiv (w64 ((w64 (ax0 + b1)) - (1 : Int))) b1)))
theorem k61 (N : Nat) (ax0 : Int) (b1 : Int) : callF (E61) lv61 N en61 c61 (resOf Try.f61) 9 [.dv (.int .i64) ax0, .dv (.int .i64) b1] [] dec61 = m61 N ax0 b1 := by kernel_rfl
theorem ok61 (a : Int → Int → Option (Int)) (h : ∀ ax0 b1 r, a ax0 b1 = some r → (∃ N, m61 N ax0 b1 = some r)) : FnOk Try.prog 61 (F61 a) := by
 intro args Of x hx
 simp only [F61] at hx
 split at hx
 ·rename_i ax0 b1
  obtain ⟨N, hN⟩ := h _ _ _ hx
  refine lifted (L := []) (rc := nrc) (fz := nfz) (fn := Try.f61) (by kernel_rfl) (by kernel_rfl) (by kernel_rfl) (by kernel_rfl) rfl ?_ ((k61 N _ _).trans hN) ?_
  ·intro p hp; cases hp
  ·intro l o hd
   simp only [dec61] at hd
   split at hd
   ·obtain rfl := oij hd; exact ⟨rfl, rfl⟩
   ·cases hd
 ·cases hx
def E60c (a61 : Wm0T19) (a62c63 : Wm0T25) : Env := mkE TI TY [(61, F61 a61), (62, F62c63 a62c63)] nrc nfz
noncomputable def c60c : Code := bodyOf Try.f60
def lv60c : Nat → Option Norm := norms []
def en60c : End := ⟨[], ⟨[9], [9000, 9001], [], []⟩⟩
def dec60c (l : List TV) (o : List (Nat × TO)) : Option (Int × List Int × Int) := match l, o with | [.dv (.int .i64) x0], [(9000, .rcd [.dv (.sl (.int .i64)) x1]), (9001, .rcd [.dv (.int .i64) x2])] => some (x0, x1, x2) | _, _ => none
def m60c (a61 : Wm0T19) (a62c63 : Wm0T25) (N : Nat) (t0 : Int) (p1 : List Int) (p2 : Int) : Option (Int × List Int × Int) :=
   (a62c63 p1).bind fun r1 =>
   (a61 r1 p2).bind fun r2 =>
   some (r2, p1, p2)
theorem k60c (a61 : Wm0T19) (a62c63 : Wm0T25) (N : Nat) (t0 : Int) (p1 : List Int) (p2 : Int) : callF (E60c a61 a62c63) lv60c N en60c c60c (resOf Try.f60) 6 [.dv (.int .i64) t0, .ptr 9000 0 [0], .ptr 9001 0 [0]] [(9000, .rcd [.dv (.sl (.int .i64)) p1]), (9001, .rcd [.dv (.int .i64) p2])] dec60c = m60c a61 a62c63 N t0 p1 p2 := by kernel_rfl
theorem ok60c (a61 : Wm0T19) (a62c63 : Wm0T25) (h61 : FnOk Try.prog 61 (F61 a61)) (h62c63 : FnOk Try.prog 62 (F62c63 a62c63)) (a : Int → (List Int) → Int → Option (Int × List Int × Int)) (h : ∀ t0 p1 p2 r, a t0 p1 p2 = some r → (∃ N, m60c a61 a62c63 N t0 p1 p2 = some r)) : FnOk Try.prog 60 (F60c a) := by
 intro args Of x hx
 simp only [F60c] at hx
 split at hx
 ·rename_i t0 p1 p2
  obtain ⟨N, hN⟩ := h _ _ _ _ hx
  refine lifted (L := [(61, F61 a61), (62, F62c63 a62c63)]) (rc := nrc) (fz := nfz) (fn := Try.f60) (by kernel_rfl) (by kernel_rfl) (by kernel_rfl) (by kernel_rfl) rfl ?_ ((k60c a61 a62c63 N _ _ _).trans hN) ?_
  ·intro p hp; simp only [List.mem_cons, List.not_mem_nil, or_false] at hp; rcases hp with rfl | rfl
   ·exact h61
   ·exact h62c63
  ·intro l o hd
   simp only [dec60c] at hd
   split at hd
   ·obtain rfl := oij hd; exact ⟨rfl, rfl⟩
   ·cases hd
 ·cases hx
def E7 (a23 : Wm0T39) (a24 : Wm0T40) (a58c : Wm0T41) (a59c : Wm0T41) (a60c : Wm0T42) : Env := mkE TI TY [(23, F23 a23), (24, F24 a24), (58, F58c a58c), (59, F59c a59c), (60, F60c a60c)] (fun i => ([(9, [some (.int .i64), none]), (24, [some (.int .i64), none])] : List (Nat × List (Option DT))).lookup i) nfz
noncomputable def c7 : Code := bodyOf Try.f7
def nm7_0 : Norm := ⟨[7, 19, 20, 21], [1190022, 1190005, 1190006, 1190003], [], []⟩
def nm7_1 : Norm := ⟨[7, 9, 19, 20, 21, 26, 27], [9, 1190022, 1190005, 1190006, 1190003], [], []⟩
def lv7 : Nat → Option Norm := norms [(6, nm7_0), (9, nm7_1)]
def en7 : End := ⟨[], ⟨[39, 40], [], [], []⟩⟩
def dec7 (l : List TV) (o : List (Nat × TO)) : Option (Int × Int) := match l, o with | [.dv (.int .i64) x0, .dv (.int .i64) x1], [] => some (x0, x1) | _, _ => none
def Sl7g (r2 : Int × List Int × List Int × Int × Int × Int) (n7_g : Int) (o1190005_gf0 : List Int) (o1190006_gf0 : List Int) (o1190003_gf0 : Int) : TS := ⟨slots 39 [(7, .dv (.int .i64) n7_g), (19, .view 1190022 0 [] 2 3 0 3), (20, .dv (.int .i64) (3 : Int)), (21, .dv (.int .i64) (3 : Int))], [(1190022, .rcd [.dv (.int .i64) r2.2.2.2.1, .fn 58 0 1 fun i => ([.ptr 1190005 0 [0]] : List TV).getD i .any, .dv (.int .i64) r2.2.2.2.2.1, .fn 59 0 1 fun i => ([.ptr 1190006 0 [0]] : List TV).getD i .any, .dv (.int .i64) r2.2.2.2.2.2, .fn 60 0 2 fun i => ([.ptr 1190005 0 [0], .ptr 1190003 0 [0]] : List TV).getD i .any]), (1190005, .rcd [.dv (.sl (.int .i64)) o1190005_gf0]), (1190006, .rcd [.dv (.sl (.int .i64)) o1190006_gf0]), (1190003, .rcd [.dv (.int .i64) o1190003_gf0])]⟩
def Sl7f (r2 : Int × List Int × List Int × Int × Int × Int) (n7_f : Int) (t27_f : Int) (o1190005_ff0 : List Int) (o1190006_ff0 : List Int) (o1190003_ff0 : Int) : TS := ⟨slots 39 [(7, .dv (.int .i64) n7_f), (9, .ptr 9 0 []), (19, .view 1190022 0 [] 2 3 0 3), (20, .dv (.int .i64) (3 : Int)), (21, .dv (.int .i64) (2 : Int)), (26, .dv (.int .i64) r2.2.2.2.2.2), (27, .dv (.int .i64) t27_f)], [(9, .rcd [.dv (.int .i64) r2.2.2.2.2.2, .fn 60 0 2 fun i => ([.ptr 1190005 0 [0], .ptr 1190003 0 [0]] : List TV).getD i .any]), (1190022, .rcd [.dv (.int .i64) r2.2.2.2.1, .fn 58 0 1 fun i => ([.ptr 1190005 0 [0]] : List TV).getD i .any, .dv (.int .i64) r2.2.2.2.2.1, .fn 59 0 1 fun i => ([.ptr 1190006 0 [0]] : List TV).getD i .any, .dv (.int .i64) r2.2.2.2.2.2, .fn 60 0 2 fun i => ([.ptr 1190005 0 [0], .ptr 1190003 0 [0]] : List TV).getD i .any]), (1190005, .rcd [.dv (.sl (.int .i64)) o1190005_ff0]), (1190006, .rcd [.dv (.sl (.int .i64)) o1190006_ff0]), (1190003, .rcd [.dv (.int .i64) o1190003_ff0])]⟩
def Sl7e (r2 : Int × List Int × List Int × Int × Int × Int) (n7_e : Int) (o1190005_ef0 : List Int) (o1190006_ef0 : List Int) (o1190003_ef0 : Int) : TS := ⟨slots 39 [(7, .dv (.int .i64) n7_e), (19, .view 1190022 0 [] 2 3 0 3), (20, .dv (.int .i64) (3 : Int)), (21, .dv (.int .i64) (2 : Int))], [(1190022, .rcd [.dv (.int .i64) r2.2.2.2.1, .fn 58 0 1 fun i => ([.ptr 1190005 0 [0]] : List TV).getD i .any, .dv (.int .i64) r2.2.2.2.2.1, .fn 59 0 1 fun i => ([.ptr 1190006 0 [0]] : List TV).getD i .any, .dv (.int .i64) r2.2.2.2.2.2, .fn 60 0 2 fun i => ([.ptr 1190005 0 [0], .ptr 1190003 0 [0]] : List TV).getD i .any]), (1190005, .rcd [.dv (.sl (.int .i64)) o1190005_ef0]), (1190006, .rcd [.dv (.sl (.int .i64)) o1190006_ef0]), (1190003, .rcd [.dv (.int .i64) o1190003_ef0])]⟩
def Sl7d (r2 : Int × List Int × List Int × Int × Int × Int) (n7_d : Int) (t27_d : Int) (o1190005_df0 : List Int) (o1190006_df0 : List Int) (o1190003_df0 : Int) : TS := ⟨slots 39 [(7, .dv (.int .i64) n7_d), (9, .ptr 9 0 []), (19, .view 1190022 0 [] 2 3 0 3), (20, .dv (.int .i64) (3 : Int)), (21, .dv (.int .i64) (1 : Int)), (26, .dv (.int .i64) r2.2.2.2.2.1), (27, .dv (.int .i64) t27_d)], [(9, .rcd [.dv (.int .i64) r2.2.2.2.2.1, .fn 59 0 1 fun i => ([.ptr 1190006 0 [0]] : List TV).getD i .any]), (1190022, .rcd [.dv (.int .i64) r2.2.2.2.1, .fn 58 0 1 fun i => ([.ptr 1190005 0 [0]] : List TV).getD i .any, .dv (.int .i64) r2.2.2.2.2.1, .fn 59 0 1 fun i => ([.ptr 1190006 0 [0]] : List TV).getD i .any, .dv (.int .i64) r2.2.2.2.2.2, .fn 60 0 2 fun i => ([.ptr 1190005 0 [0], .ptr 1190003 0 [0]] : List TV).getD i .any]), (1190005, .rcd [.dv (.sl (.int .i64)) o1190005_df0]), (1190006, .rcd [.dv (.sl (.int .i64)) o1190006_df0]), (1190003, .rcd [.dv (.int .i64) o1190003_df0])]⟩
def Sl7c (r2 : Int × List Int × List Int × Int × Int × Int) (n7_c : Int) (o1190005_cf0 : List Int) (o1190006_cf0 : List Int) (o1190003_cf0 : Int) : TS := ⟨slots 39 [(7, .dv (.int .i64) n7_c), (19, .view 1190022 0 [] 2 3 0 3), (20, .dv (.int .i64) (3 : Int)), (21, .dv (.int .i64) (1 : Int))], [(1190022, .rcd [.dv (.int .i64) r2.2.2.2.1, .fn 58 0 1 fun i => ([.ptr 1190005 0 [0]] : List TV).getD i .any, .dv (.int .i64) r2.2.2.2.2.1, .fn 59 0 1 fun i => ([.ptr 1190006 0 [0]] : List TV).getD i .any, .dv (.int .i64) r2.2.2.2.2.2, .fn 60 0 2 fun i => ([.ptr 1190005 0 [0], .ptr 1190003 0 [0]] : List TV).getD i .any]), (1190005, .rcd [.dv (.sl (.int .i64)) o1190005_cf0]), (1190006, .rcd [.dv (.sl (.int .i64)) o1190006_cf0]), (1190003, .rcd [.dv (.int .i64) o1190003_cf0])]⟩
def Sl7b (r2 : Int × List Int × List Int × Int × Int × Int) (n7_b : Int) (t27_b : Int) (o1190005_bf0 : List Int) (o1190006_bf0 : List Int) (o1190003_bf0 : Int) : TS := ⟨slots 39 [(7, .dv (.int .i64) n7_b), (9, .ptr 9 0 []), (19, .view 1190022 0 [] 2 3 0 3), (20, .dv (.int .i64) (3 : Int)), (21, .dv (.int .i64) (0 : Int)), (26, .dv (.int .i64) r2.2.2.2.1), (27, .dv (.int .i64) t27_b)], [(9, .rcd [.dv (.int .i64) r2.2.2.2.1, .fn 58 0 1 fun i => ([.ptr 1190005 0 [0]] : List TV).getD i .any]), (1190022, .rcd [.dv (.int .i64) r2.2.2.2.1, .fn 58 0 1 fun i => ([.ptr 1190005 0 [0]] : List TV).getD i .any, .dv (.int .i64) r2.2.2.2.2.1, .fn 59 0 1 fun i => ([.ptr 1190006 0 [0]] : List TV).getD i .any, .dv (.int .i64) r2.2.2.2.2.2, .fn 60 0 2 fun i => ([.ptr 1190005 0 [0], .ptr 1190003 0 [0]] : List TV).getD i .any]), (1190005, .rcd [.dv (.sl (.int .i64)) o1190005_bf0]), (1190006, .rcd [.dv (.sl (.int .i64)) o1190006_bf0]), (1190003, .rcd [.dv (.int .i64) o1190003_bf0])]⟩
def Sl7a (r2 : Int × List Int × List Int × Int × Int × Int) (n7_a : Int) (o1190005_af0 : List Int) (o1190006_af0 : List Int) : TS := ⟨slots 39 [(7, .dv (.int .i64) n7_a), (19, .view 1190022 0 [] 2 3 0 3), (20, .dv (.int .i64) (3 : Int)), (21, .dv (.int .i64) (0 : Int))], [(1190022, .rcd [.dv (.int .i64) r2.2.2.2.1, .fn 58 0 1 fun i => ([.ptr 1190005 0 [0]] : List TV).getD i .any, .dv (.int .i64) r2.2.2.2.2.1, .fn 59 0 1 fun i => ([.ptr 1190006 0 [0]] : List TV).getD i .any, .dv (.int .i64) r2.2.2.2.2.2, .fn 60 0 2 fun i => ([.ptr 1190005 0 [0], .ptr 1190003 0 [0]] : List TV).getD i .any]), (1190005, .rcd [.dv (.sl (.int .i64)) o1190005_af0]), (1190006, .rcd [.dv (.sl (.int .i64)) o1190006_af0]), (1190003, .rcd [.dv (.int .i64) r2.1])]⟩
noncomputable def K7_0 (a23 : Wm0T39) (a24 : Wm0T40) (a58c : Wm0T41) (a59c : Wm0T41) (a60c : Wm0T42) (N : Nat) : Kont (Int × Int) := kont (E7 a23 a24 a58c a59c a60c) lv7 N c7 [1, 1, 1, 0, 1, 0] (fin TI en7 (resOf Try.f7) dec7)
noncomputable def R7_0 (a23 : Wm0T39) (a24 : Wm0T40) (a58c : Wm0T41) (a59c : Wm0T41) (a60c : Wm0T42) (N : Nat) (m : Nat) : TS → Option (Int × Int) := loopK (den (E7 a23 a24 a58c a59c a60c) lv7 N (sub c7 [1, 1, 1, 0, 1, 0, 0])) (TS.norm nm7_0) (K7_0 a23 a24 a58c a59c a60c N) m
noncomputable def K7_1 (a23 : Wm0T39) (a24 : Wm0T40) (a58c : Wm0T41) (a59c : Wm0T41) (a60c : Wm0T42) (N : Nat) (T7_0 : Wm0T43) : Kont (Int × Int) := kont (E7 a23 a24 a58c a59c a60c) lv7 N (sub c7 [1, 1, 1, 0, 1, 0, 0]) [1, 1, 0, 0, 1, 1, 0] (kloop (TS.norm nm7_0) (K7_0 a23 a24 a58c a59c a60c N) T7_0)
noncomputable def R7_1 (a23 : Wm0T39) (a24 : Wm0T40) (a58c : Wm0T41) (a59c : Wm0T41) (a60c : Wm0T42) (N : Nat) (T7_0 : Wm0T43) (m : Nat) : TS → Option (Int × Int) := loopK (den (E7 a23 a24 a58c a59c a60c) lv7 N (sub c7 [1, 1, 1, 0, 1, 0, 0, 1, 1, 0, 0, 1, 1, 0, 0])) (TS.norm nm7_1) (K7_1 a23 a24 a58c a59c a60c N T7_0) m
def l7g (a23 : Wm0T39) (a24 : Wm0T40) (a58c : Wm0T41) (a59c : Wm0T41) (a60c : Wm0T42) (N : Nat) (r2 : Int × List Int × List Int × Int × Int × Int) : Nat → Int → (List Int) → (List Int) → Int → Option (Int × Int)
 | 0, _, _, _, _ => none
 | n + 1, n7_g, o1190005_gf0, o1190006_gf0, o1190003_gf0 => some (n7_g, (0 : Int))
theorem wl7g (a23 : Wm0T39) (a24 : Wm0T40) (a58c : Wm0T41) (a59c : Wm0T41) (a60c : Wm0T42) (N : Nat) (r2 : Int × List Int × List Int × Int × Int × Int) (m : Nat) (n7_g : Int) (o1190005_gf0 : List Int) (o1190006_gf0 : List Int) (o1190003_gf0 : Int) : R7_0 a23 a24 a58c a59c a60c N (m + 1) (Sl7g r2 n7_g o1190005_gf0 o1190006_gf0 o1190003_gf0) = some (n7_g, (0 : Int)) := by kernel_rfl
theorem ql7g (a23 : Wm0T39) (a24 : Wm0T40) (a58c : Wm0T41) (a59c : Wm0T41) (a60c : Wm0T42) (N : Nat) (r2 : Int × List Int × List Int × Int × Int × Int) : ∀ (m : Nat) (n7_g : Int) (o1190005_gf0 : List Int) (o1190006_gf0 : List Int) (o1190003_gf0 : Int), R7_0 a23 a24 a58c a59c a60c N m (Sl7g r2 n7_g o1190005_gf0 o1190006_gf0 o1190003_gf0) = l7g a23 a24 a58c a59c a60c N r2 m n7_g o1190005_gf0 o1190006_gf0 o1190003_gf0
        | 0, _, _, _, _ => rfl
        | m + 1, n7_g, o1190005_gf0, o1190006_gf0, o1190003_gf0 => by rw [wl7g]; simp only [l7g, ql7g a23 a24 a58c a59c a60c N r2 m]
def l7f (a23 : Wm0T39) (a24 : Wm0T40) (a58c : Wm0T41) (a59c : Wm0T41) (a60c : Wm0T42) (N : Nat) (r2 : Int × List Int × List Int × Int × Int × Int) (rec_l7g : Int → (List Int) → (List Int) → Int → Option (Int × Int)) : Nat → Int → Int → (List Int) → (List Int) → Int → Option (Int × Int)
 | 0, _, _, _, _, _ => none
 | n + 1, n7_f, t27_f, o1190005_ff0, o1190006_ff0, o1190003_ff0 => cond (decide (t27_f < r2.2.2.2.2.2)) ((a60c t27_f o1190005_ff0 o1190003_ff0).bind fun r5 =>
   (l7f a23 a24 a58c a59c a60c N r2 rec_l7g n (imax n7_f r5.1) (w64 (t27_f + (1 : Int))) r5.2.1 o1190006_ff0 r5.2.2))
   ((rec_l7g n7_f o1190005_ff0 o1190006_ff0 o1190003_ff0))
theorem wl7f (a23 : Wm0T39) (a24 : Wm0T40) (a58c : Wm0T41) (a59c : Wm0T41) (a60c : Wm0T42) (N : Nat) (r2 : Int × List Int × List Int × Int × Int × Int) (T7_0 : Wm0T43) (m : Nat) (n7_f : Int) (t27_f : Int) (o1190005_ff0 : List Int) (o1190006_ff0 : List Int) (o1190003_ff0 : Int) : R7_1 a23 a24 a58c a59c a60c N T7_0 (m + 1) (Sl7f r2 n7_f t27_f o1190005_ff0 o1190006_ff0 o1190003_ff0) = cond (decide (t27_f < r2.2.2.2.2.2)) ((a60c t27_f o1190005_ff0 o1190003_ff0).bind fun r5 =>
   (R7_1 a23 a24 a58c a59c a60c N T7_0 m (Sl7f r2 (imax n7_f r5.1) (w64 (t27_f + (1 : Int))) r5.2.1 o1190006_ff0 r5.2.2)))
   ((T7_0 (Sl7g r2 n7_f o1190005_ff0 o1190006_ff0 o1190003_ff0))) := by kernel_rfl
theorem ql7f (a23 : Wm0T39) (a24 : Wm0T40) (a58c : Wm0T41) (a59c : Wm0T41) (a60c : Wm0T42) (N : Nat) (r2 : Int × List Int × List Int × Int × Int × Int) (T7_0 : Wm0T43) : ∀ (m : Nat) (n7_f : Int) (t27_f : Int) (o1190005_ff0 : List Int) (o1190006_ff0 : List Int) (o1190003_ff0 : Int), R7_1 a23 a24 a58c a59c a60c N T7_0 m (Sl7f r2 n7_f t27_f o1190005_ff0 o1190006_ff0 o1190003_ff0) = l7f a23 a24 a58c a59c a60c N r2 (fun y0 y1 y2 y3 => T7_0 (Sl7g r2 y0 y1 y2 y3)) m n7_f t27_f o1190005_ff0 o1190006_ff0 o1190003_ff0
        | 0, _, _, _, _, _ => rfl
        | m + 1, n7_f, t27_f, o1190005_ff0, o1190006_ff0, o1190003_ff0 => by rw [wl7f]; simp only [l7f, ql7f a23 a24 a58c a59c a60c N r2 T7_0 m]
def l7e (a23 : Wm0T39) (a24 : Wm0T40) (a58c : Wm0T41) (a59c : Wm0T41) (a60c : Wm0T42) (N : Nat) (r2 : Int × List Int × List Int × Int × Int × Int) : Nat → Int → (List Int) → (List Int) → Int → Option (Int × Int)
 | 0, _, _, _, _ => none
 | n + 1, n7_e, o1190005_ef0, o1190006_ef0, o1190003_ef0 => (l7f a23 a24 a58c a59c a60c N r2 (fun y0 y1 y2 y3 => (l7g a23 a24 a58c a59c a60c N r2 n y0 y1 y2 y3)) N n7_e (0 : Int) o1190005_ef0 o1190006_ef0 o1190003_ef0)
theorem wl7e (a23 : Wm0T39) (a24 : Wm0T40) (a58c : Wm0T41) (a59c : Wm0T41) (a60c : Wm0T42) (N : Nat) (r2 : Int × List Int × List Int × Int × Int × Int) (m : Nat) (n7_e : Int) (o1190005_ef0 : List Int) (o1190006_ef0 : List Int) (o1190003_ef0 : Int) : R7_0 a23 a24 a58c a59c a60c N (m + 1) (Sl7e r2 n7_e o1190005_ef0 o1190006_ef0 o1190003_ef0) = (R7_1 a23 a24 a58c a59c a60c N (R7_0 a23 a24 a58c a59c a60c N m) N (Sl7f r2 n7_e (0 : Int) o1190005_ef0 o1190006_ef0 o1190003_ef0)) := by kernel_rfl
theorem ql7e (a23 : Wm0T39) (a24 : Wm0T40) (a58c : Wm0T41) (a59c : Wm0T41) (a60c : Wm0T42) (N : Nat) (r2 : Int × List Int × List Int × Int × Int × Int) : ∀ (m : Nat) (n7_e : Int) (o1190005_ef0 : List Int) (o1190006_ef0 : List Int) (o1190003_ef0 : Int), R7_0 a23 a24 a58c a59c a60c N m (Sl7e r2 n7_e o1190005_ef0 o1190006_ef0 o1190003_ef0) = l7e a23 a24 a58c a59c a60c N r2 m n7_e o1190005_ef0 o1190006_ef0 o1190003_ef0
        | 0, _, _, _, _ => rfl
        | m + 1, n7_e, o1190005_ef0, o1190006_ef0, o1190003_ef0 => by rw [wl7e]; simp only [l7e, ql7f, ql7g, ql7e a23 a24 a58c a59c a60c N r2 m]
def l7d (a23 : Wm0T39) (a24 : Wm0T40) (a58c : Wm0T41) (a59c : Wm0T41) (a60c : Wm0T42) (N : Nat) (r2 : Int × List Int × List Int × Int × Int × Int) (rec_l7e : Int → (List Int) → (List Int) → Int → Option (Int × Int)) : Nat → Int → Int → (List Int) → (List Int) → Int → Option (Int × Int)
 | 0, _, _, _, _, _ => none
 | n + 1, n7_d, t27_d, o1190005_df0, o1190006_df0, o1190003_df0 => cond (decide (t27_d < r2.2.2.2.2.1)) ((a59c t27_d o1190006_df0).bind fun r4 =>
   (l7d a23 a24 a58c a59c a60c N r2 rec_l7e n (imax n7_d r4.1) (w64 (t27_d + (1 : Int))) o1190005_df0 r4.2 o1190003_df0))
   ((rec_l7e n7_d o1190005_df0 o1190006_df0 o1190003_df0))
theorem wl7d (a23 : Wm0T39) (a24 : Wm0T40) (a58c : Wm0T41) (a59c : Wm0T41) (a60c : Wm0T42) (N : Nat) (r2 : Int × List Int × List Int × Int × Int × Int) (T7_0 : Wm0T43) (m : Nat) (n7_d : Int) (t27_d : Int) (o1190005_df0 : List Int) (o1190006_df0 : List Int) (o1190003_df0 : Int) : R7_1 a23 a24 a58c a59c a60c N T7_0 (m + 1) (Sl7d r2 n7_d t27_d o1190005_df0 o1190006_df0 o1190003_df0) = cond (decide (t27_d < r2.2.2.2.2.1)) ((a59c t27_d o1190006_df0).bind fun r4 =>
   (R7_1 a23 a24 a58c a59c a60c N T7_0 m (Sl7d r2 (imax n7_d r4.1) (w64 (t27_d + (1 : Int))) o1190005_df0 r4.2 o1190003_df0)))
   ((T7_0 (Sl7e r2 n7_d o1190005_df0 o1190006_df0 o1190003_df0))) := by kernel_rfl
theorem ql7d (a23 : Wm0T39) (a24 : Wm0T40) (a58c : Wm0T41) (a59c : Wm0T41) (a60c : Wm0T42) (N : Nat) (r2 : Int × List Int × List Int × Int × Int × Int) (T7_0 : Wm0T43) : ∀ (m : Nat) (n7_d : Int) (t27_d : Int) (o1190005_df0 : List Int) (o1190006_df0 : List Int) (o1190003_df0 : Int), R7_1 a23 a24 a58c a59c a60c N T7_0 m (Sl7d r2 n7_d t27_d o1190005_df0 o1190006_df0 o1190003_df0) = l7d a23 a24 a58c a59c a60c N r2 (fun y0 y1 y2 y3 => T7_0 (Sl7e r2 y0 y1 y2 y3)) m n7_d t27_d o1190005_df0 o1190006_df0 o1190003_df0
        | 0, _, _, _, _, _ => rfl
        | m + 1, n7_d, t27_d, o1190005_df0, o1190006_df0, o1190003_df0 => by rw [wl7d]; simp only [l7d, ql7d a23 a24 a58c a59c a60c N r2 T7_0 m]
def l7c (a23 : Wm0T39) (a24 : Wm0T40) (a58c : Wm0T41) (a59c : Wm0T41) (a60c : Wm0T42) (N : Nat) (r2 : Int × List Int × List Int × Int × Int × Int) : Nat → Int → (List Int) → (List Int) → Int → Option (Int × Int)
 | 0, _, _, _, _ => none
 | n + 1, n7_c, o1190005_cf0, o1190006_cf0, o1190003_cf0 => (l7d a23 a24 a58c a59c a60c N r2 (fun y0 y1 y2 y3 => (l7e a23 a24 a58c a59c a60c N r2 n y0 y1 y2 y3)) N n7_c (0 : Int) o1190005_cf0 o1190006_cf0 o1190003_cf0)
theorem wl7c (a23 : Wm0T39) (a24 : Wm0T40) (a58c : Wm0T41) (a59c : Wm0T41) (a60c : Wm0T42) (N : Nat) (r2 : Int × List Int × List Int × Int × Int × Int) (m : Nat) (n7_c : Int) (o1190005_cf0 : List Int) (o1190006_cf0 : List Int) (o1190003_cf0 : Int) : R7_0 a23 a24 a58c a59c a60c N (m + 1) (Sl7c r2 n7_c o1190005_cf0 o1190006_cf0 o1190003_cf0) = (R7_1 a23 a24 a58c a59c a60c N (R7_0 a23 a24 a58c a59c a60c N m) N (Sl7d r2 n7_c (0 : Int) o1190005_cf0 o1190006_cf0 o1190003_cf0)) := by kernel_rfl
theorem ql7c (a23 : Wm0T39) (a24 : Wm0T40) (a58c : Wm0T41) (a59c : Wm0T41) (a60c : Wm0T42) (N : Nat) (r2 : Int × List Int × List Int × Int × Int × Int) : ∀ (m : Nat) (n7_c : Int) (o1190005_cf0 : List Int) (o1190006_cf0 : List Int) (o1190003_cf0 : Int), R7_0 a23 a24 a58c a59c a60c N m (Sl7c r2 n7_c o1190005_cf0 o1190006_cf0 o1190003_cf0) = l7c a23 a24 a58c a59c a60c N r2 m n7_c o1190005_cf0 o1190006_cf0 o1190003_cf0
        | 0, _, _, _, _ => rfl
        | m + 1, n7_c, o1190005_cf0, o1190006_cf0, o1190003_cf0 => by rw [wl7c]; simp only [l7c, ql7d, ql7e, ql7c a23 a24 a58c a59c a60c N r2 m]
def l7b (a23 : Wm0T39) (a24 : Wm0T40) (a58c : Wm0T41) (a59c : Wm0T41) (a60c : Wm0T42) (N : Nat) (r2 : Int × List Int × List Int × Int × Int × Int) (rec_l7c : Int → (List Int) → (List Int) → Int → Option (Int × Int)) : Nat → Int → Int → (List Int) → (List Int) → Int → Option (Int × Int)
 | 0, _, _, _, _, _ => none
 | n + 1, n7_b, t27_b, o1190005_bf0, o1190006_bf0, o1190003_bf0 => cond (decide (t27_b < r2.2.2.2.1)) ((a58c t27_b o1190005_bf0).bind fun r3 =>
   (l7b a23 a24 a58c a59c a60c N r2 rec_l7c n (imax n7_b r3.1) (w64 (t27_b + (1 : Int))) r3.2 o1190006_bf0 o1190003_bf0))
   ((rec_l7c n7_b o1190005_bf0 o1190006_bf0 o1190003_bf0))
theorem wl7b (a23 : Wm0T39) (a24 : Wm0T40) (a58c : Wm0T41) (a59c : Wm0T41) (a60c : Wm0T42) (N : Nat) (r2 : Int × List Int × List Int × Int × Int × Int) (T7_0 : Wm0T43) (m : Nat) (n7_b : Int) (t27_b : Int) (o1190005_bf0 : List Int) (o1190006_bf0 : List Int) (o1190003_bf0 : Int) : R7_1 a23 a24 a58c a59c a60c N T7_0 (m + 1) (Sl7b r2 n7_b t27_b o1190005_bf0 o1190006_bf0 o1190003_bf0) = cond (decide (t27_b < r2.2.2.2.1)) ((a58c t27_b o1190005_bf0).bind fun r3 =>
   (R7_1 a23 a24 a58c a59c a60c N T7_0 m (Sl7b r2 (imax n7_b r3.1) (w64 (t27_b + (1 : Int))) r3.2 o1190006_bf0 o1190003_bf0)))
   ((T7_0 (Sl7c r2 n7_b o1190005_bf0 o1190006_bf0 o1190003_bf0))) := by kernel_rfl
theorem ql7b (a23 : Wm0T39) (a24 : Wm0T40) (a58c : Wm0T41) (a59c : Wm0T41) (a60c : Wm0T42) (N : Nat) (r2 : Int × List Int × List Int × Int × Int × Int) (T7_0 : Wm0T43) : ∀ (m : Nat) (n7_b : Int) (t27_b : Int) (o1190005_bf0 : List Int) (o1190006_bf0 : List Int) (o1190003_bf0 : Int), R7_1 a23 a24 a58c a59c a60c N T7_0 m (Sl7b r2 n7_b t27_b o1190005_bf0 o1190006_bf0 o1190003_bf0) = l7b a23 a24 a58c a59c a60c N r2 (fun y0 y1 y2 y3 => T7_0 (Sl7c r2 y0 y1 y2 y3)) m n7_b t27_b o1190005_bf0 o1190006_bf0 o1190003_bf0
        | 0, _, _, _, _, _ => rfl
        | m + 1, n7_b, t27_b, o1190005_bf0, o1190006_bf0, o1190003_bf0 => by rw [wl7b]; simp only [l7b, ql7b a23 a24 a58c a59c a60c N r2 T7_0 m]
def l7a (a23 : Wm0T39) (a24 : Wm0T40) (a58c : Wm0T41) (a59c : Wm0T41) (a60c : Wm0T42) (N : Nat) (r2 : Int × List Int × List Int × Int × Int × Int) : Nat → Int → (List Int) → (List Int) → Option (Int × Int)
 | 0, _, _, _ => none
 | n + 1, n7_a, o1190005_af0, o1190006_af0 => (l7b a23 a24 a58c a59c a60c N r2 (fun y0 y1 y2 y3 => (l7c a23 a24 a58c a59c a60c N r2 n y0 y1 y2 y3)) N n7_a (0 : Int) o1190005_af0 o1190006_af0 r2.1)
theorem wl7a (a23 : Wm0T39) (a24 : Wm0T40) (a58c : Wm0T41) (a59c : Wm0T41) (a60c : Wm0T42) (N : Nat) (r2 : Int × List Int × List Int × Int × Int × Int) (m : Nat) (n7_a : Int) (o1190005_af0 : List Int) (o1190006_af0 : List Int) : R7_0 a23 a24 a58c a59c a60c N (m + 1) (Sl7a r2 n7_a o1190005_af0 o1190006_af0) = (R7_1 a23 a24 a58c a59c a60c N (R7_0 a23 a24 a58c a59c a60c N m) N (Sl7b r2 n7_a (0 : Int) o1190005_af0 o1190006_af0 r2.1)) := by kernel_rfl
theorem ql7a (a23 : Wm0T39) (a24 : Wm0T40) (a58c : Wm0T41) (a59c : Wm0T41) (a60c : Wm0T42) (N : Nat) (r2 : Int × List Int × List Int × Int × Int × Int) : ∀ (m : Nat) (n7_a : Int) (o1190005_af0 : List Int) (o1190006_af0 : List Int), R7_0 a23 a24 a58c a59c a60c N m (Sl7a r2 n7_a o1190005_af0 o1190006_af0) = l7a a23 a24 a58c a59c a60c N r2 m n7_a o1190005_af0 o1190006_af0
        | 0, _, _, _ => rfl
        | m + 1, n7_a, o1190005_af0, o1190006_af0 => by rw [wl7a]; simp only [l7a, ql7b, ql7c, ql7a a23 a24 a58c a59c a60c N r2 m]
def m7 (a23 : Wm0T39) (a24 : Wm0T40) (a58c : Wm0T41) (a59c : Wm0T41) (a60c : Wm0T42) (N : Nat) (work0 : List (List Int)) (seats1 : Int) : Option (Int × Int) :=
   (a23 work0 seats1).bind fun r1 =>
   cond (r1 != (0 : Int)) (some ((0 : Int), r1))
   ((a24 work0 seats1).bind fun r2 =>
   (l7a a23 a24 a58c a59c a60c N r2 N (0 : Int) r2.2.1 r2.2.2.1))
theorem wm7 (a23 : Wm0T39) (a24 : Wm0T40) (a58c : Wm0T41) (a59c : Wm0T41) (a60c : Wm0T42) (N : Nat) (work0 : List (List Int)) (seats1 : Int) : callF (E7 a23 a24 a58c a59c a60c) lv7 N en7 c7 (resOf Try.f7) 37 [.dv (.sl (.sl (.int .i64))) work0, .dv (.int .i64) seats1] [] dec7 = (a23 work0 seats1).bind fun r1 =>
   cond (r1 != (0 : Int)) (some ((0 : Int), r1))
   ((a24 work0 seats1).bind fun r2 =>
   (R7_0 a23 a24 a58c a59c a60c N N (Sl7a r2 (0 : Int) r2.2.1 r2.2.2.1))) := by kernel_rfl
theorem k7 (a23 : Wm0T39) (a24 : Wm0T40) (a58c : Wm0T41) (a59c : Wm0T41) (a60c : Wm0T42) (N : Nat) (work0 : List (List Int)) (seats1 : Int) : callF (E7 a23 a24 a58c a59c a60c) lv7 N en7 c7 (resOf Try.f7) 37 [.dv (.sl (.sl (.int .i64))) work0, .dv (.int .i64) seats1] [] dec7 = m7 a23 a24 a58c a59c a60c N work0 seats1 := by rw [wm7]; simp only [m7, ql7a]
theorem ok7 (a23 : Wm0T39) (a24 : Wm0T40) (a58c : Wm0T41) (a59c : Wm0T41) (a60c : Wm0T42) (h23 : FnOk Try.prog 23 (F23 a23)) (h24 : FnOk Try.prog 24 (F24 a24)) (h58c : FnOk Try.prog 58 (F58c a58c)) (h59c : FnOk Try.prog 59 (F59c a59c)) (h60c : FnOk Try.prog 60 (F60c a60c)) (a : (List (List Int)) → Int → Option (Int × Int)) (h : ∀ work0 seats1 r, a work0 seats1 = some r → (∃ N, m7 a23 a24 a58c a59c a60c N work0 seats1 = some r)) : FnOk Try.prog 7 (F7 a) := by
 intro args Of x hx
 simp only [F7] at hx
 split at hx
 ·rename_i work0 seats1
  obtain ⟨N, hN⟩ := h _ _ _ hx
  refine lifted (L := [(23, F23 a23), (24, F24 a24), (58, F58c a58c), (59, F59c a59c), (60, F60c a60c)]) (rc := (fun i => ([(9, [some (.int .i64), none]), (24, [some (.int .i64), none])] : List (Nat × List (Option DT))).lookup i)) (fz := nfz) (fn := Try.f7) (by kernel_rfl) (by kernel_rfl) (by kernel_rfl) (by kernel_rfl) rfl ?_ ((k7 a23 a24 a58c a59c a60c N _ _).trans hN) ?_
  ·intro p hp; simp only [List.mem_cons, List.not_mem_nil, or_false] at hp; rcases hp with rfl | rfl | rfl | rfl | rfl
   ·exact h23
   ·exact h24
   ·exact h58c
   ·exact h59c
   ·exact h60c
  ·intro l o hd
   simp only [dec7] at hd
   split at hd
   ·obtain rfl := oij hd; exact ⟨rfl, rfl⟩
   ·cases hd
 ·cases hx
def E9 (a17 : Option (Bool)) (a7 : Wm0T5) : Env := mkE TI TY [(17, F17 a17), (7, F7 a7)] nrc nfz
noncomputable def c9 : Code := bodyOf Try.f9
def lv9 : Nat → Option Norm := norms []
def en9 : End := ⟨[], ⟨[19], [], [], []⟩⟩
def dec9 (l : List TV) (o : List (Nat × TO)) : Option (Bool) := match l, o with | [.dv (.bool) x0], [] => some (x0) | _, _ => none
def m9 (a17 : Option (Bool)) (a7 : Wm0T5) (N : Nat) : Option (Bool) :=
   (a7 ([([(2 : Int), (1 : Int)] : List Int), ([(0 : Int), (3 : Int)] : List Int)] : List (List Int)) (2 : Int)).bind fun r1 =>
   cond (r1.2 == (0 : Int)) (cond (r1.1 == (4 : Int)) ((a17).bind fun r2 =>
   some r2)
   (some false))
   (some false)
theorem k9 (a17 : Option (Bool)) (a7 : Wm0T5) (N : Nat) : callF (E9 a17 a7) lv9 N en9 c9 (resOf Try.f9) 19 [] [] dec9 = m9 a17 a7 N := by kernel_rfl
theorem ok9 (a17 : Option (Bool)) (a7 : Wm0T5) (h17 : FnOk Try.prog 17 (F17 a17)) (h7 : FnOk Try.prog 7 (F7 a7)) (a : Option (Bool)) (h : ∀ r, a = some r → (∃ N, m9 a17 a7 N = some r)) : FnOk Try.prog 9 (F9 a) := by
 intro args Of x hx
 simp only [F9] at hx
 split at hx
 ·skip
  obtain ⟨N, hN⟩ := h _ hx
  refine lifted (L := [(17, F17 a17), (7, F7 a7)]) (rc := nrc) (fz := nfz) (fn := Try.f9) (by kernel_rfl) (by kernel_rfl) (by kernel_rfl) (by kernel_rfl) rfl ?_ ((k9 a17 a7 N).trans hN) ?_
  ·intro p hp; simp only [List.mem_cons, List.not_mem_nil, or_false] at hp; rcases hp with rfl | rfl
   ·exact h17
   ·exact h7
  ·intro l o hd
   simp only [dec9] at hd
   split at hd
   ·obtain rfl := oij hd; exact ⟨rfl, rfl⟩
   ·cases hd
 ·cases hx
end Go.Proofs.Ytplbdongegfdnaa
