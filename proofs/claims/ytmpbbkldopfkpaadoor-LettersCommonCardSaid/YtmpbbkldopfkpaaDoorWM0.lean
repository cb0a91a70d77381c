/-
 The functions that the examples of the chapter reaches, told as plain functions.
-/
import Derived.Test.YtmpbbkldopfkpaaDoorQFI
namespace Go.Proofs.YtmpbbkldopfkpaaDoor
open Go.RowKit
set_option linter.unusedVariables false
abbrev Wm0T0 := (List (List Int)) → (List Int) → Option (Int)
abbrev Wm0T1 := Int → Int → Int → Option (Bool)
abbrev Wm0T2 := (List (List Int)) → (List Int) → Option (Bool)
abbrev Wm0T3 := Int × List (List Int) × Unit
abbrev Wm0T4 := (Int × List (List Int) × Unit) → Option (Int)
abbrev Wm0T5 := List (List Int)
abbrev Wm0T6 := TS → Option (List Int × Int)
abbrev Wm0T7 := List (Int × Bool)
abbrev Wm0T8 := (List Int) → (List UInt8) → (List (Int × Bool)) → Option (List Int × List UInt8 × List (Int × Bool))
abbrev Wm0T9 := (List Int) → Int → Int → Option (Bool)
abbrev Wm0T10 := Int → (List Int) → (List UInt8) → (List (Int × Bool)) → Option (Bool × List Int × List UInt8 × List (Int × Bool))
abbrev Wm0T11 := (Int × List (List Int) × Unit) → (List (List UInt8)) → Option (List Int × Int)
abbrev Wm0T12 := (List Int) → (List UInt8) → Option (List (Int × Bool) × List Int × List UInt8)
abbrev Wm0T13 := (List Int) → (List UInt8) → (List (Int × Bool)) → Option (List UInt8 × List Int × List UInt8 × List (Int × Bool))
abbrev Wm0T14 := Int → Int → Option (Bool)
abbrev Wm0T15 := Int → Int → (List Int) → Option (List Int)
abbrev Wm0T16 := Int → Option (Int)
abbrev Wm0T17 := Int → Int → Int → (List Int) → Option (List Int)
abbrev Wm0T18 := (List Int) → Option (List Int)
abbrev Wm0T19 := TS → Option (List (List UInt8) × Int)
abbrev Wm0T20 := TS → Option (Unit)
abbrev Wm0T21 := Int → (List Int) → (List UInt8) → (List (Int × Bool)) → Option (Int × Bool × List Int × List UInt8 × List (Int × Bool))
abbrev Wm0T22 := Int → Int → (List UInt8) → Option (List UInt8)
abbrev Wm0T23 := (List Int) → (Int × List (List Int) × Unit) → (List UInt8) → (List UInt8) → Option (Int × Int × Bool)
abbrev Wm0T24 := (List Int) → Int → Option (Int)
abbrev Wm0T25 := (Int × List (List Int) × Unit) → (List UInt8) → Option (List UInt8 × Int)
abbrev Wm0T26 := (Int × List (List Int) × Unit) → (List UInt8) → Option (List (List UInt8) × Int)
abbrev Wm0T27 := (List (List UInt8)) → (List (List UInt8)) → Option (Bool)
abbrev Wm0T28 := (Int × List (List Int) × Unit) → (List UInt8) → Option (Int × Int)
abbrev Wm0T29 := (Int × List (List Int) × Unit) → (List UInt8) → Int → Int → Option (Bool × Int)
abbrev Wm0T30 := (Int × List (List Int) × Unit) → (List UInt8) → (List UInt8) → Option (List UInt8 × Int)
abbrev Wm0T31 := (Int × List (List Int) × Unit) → (List UInt8) → (List UInt8) → Option (Bool × Int)
abbrev Wm0T32 := (Int × List (List Int) × Unit) → (List UInt8) → (List UInt8) → Option (Int × Int × Int)
abbrev Wm0T33 := (Int × List (List Int) × Unit) → (List UInt8) → (List UInt8) → Option (List Int × Int)
abbrev Wm0T34 := (Int × List (List Int) × Unit) → (List UInt8) → (List UInt8) → (List Int) → Option (Int)
def E51 : Env := mkE TI TY [] nrc nfz
noncomputable def c51 : Code := bodyOf Tryd.f51
def lv51 : Nat → Option Norm := norms []
def en51 : End := ⟨[], ⟨[15], [], [], []⟩⟩
def dec51 (l : List TV) (o : List (Nat × TO)) : Option (Bool) := match l, o with | [.dv (.bool) x0], [] => some (x0) | _, _ => none
def m51 (N : Nat) (lo0 : Int) (n1 : Int) (hi2 : Int) : Option (Bool) :=
   cond (decide (lo0 ≤ n1)) (some (decide (n1 ≤ hi2)))
   (some false)
theorem k51 (N : Nat) (lo0 : Int) (n1 : Int) (hi2 : Int) : callF (E51) lv51 N en51 c51 (resOf Tryd.f51) 12 [.dv (.int .i64) lo0, .dv (.int .i64) n1, .dv (.int .i64) hi2] [] dec51 = m51 N lo0 n1 hi2 := by kernel_rfl
theorem ok51 (a : Int → Int → Int → Option (Bool)) (h : ∀ lo0 n1 hi2 r, a lo0 n1 hi2 = some r → (∃ N, m51 N lo0 n1 hi2 = some r)) : FnOk Tryd.prog 51 (F51 a) := by
 intro args Of x hx
 simp only [F51] at hx
 split at hx
 ·rename_i lo0 n1 hi2
  obtain ⟨N, hN⟩ := h _ _ _ _ hx
  refine lifted (L := []) (rc := nrc) (fz := nfz) (fn := Tryd.f51) (by kernel_rfl) (by kernel_rfl) (by kernel_rfl) (by kernel_rfl) rfl ?_ ((k51 N _ _ _).trans hN) ?_
  ·intro p hp; cases hp
  ·intro l o hd
   simp only [dec51] at hd
   split at hd
   ·obtain rfl := Option.some.inj hd; exact ⟨rfl, rfl⟩
   ·cases hd
 ·cases hx
def E73 : Env := mkE TI TY [] nrc nfz
noncomputable def c73 : Code := bodyOf Tryd.f73
def nm73_0 : Norm := ⟨[0, 3, 7, 8], [3], [], []⟩
def lv73 : Nat → Option Norm := norms [(2, nm73_0)]
def en73 : End := ⟨[], ⟨[19], [], [], []⟩⟩
def dec73 (l : List TV) (o : List (Nat × TO)) : Option (Int) := match l, o with | [.dv (.int .i64) x0], [] => some (x0) | _, _ => none
def Sl73a (s0 : List (List Int)) (v1 : List Int) (t8_a : Int) : TS := ⟨slots 19 [(0, .dv (.sl (.arr 2 (.int .i64))) s0), (3, .ptr 3 0 []), (7, .dv (.int .i64) (s0.length : Int)), (8, .dv (.int .i64) t8_a)], [(3, .row (.arr 2 (.int .i64)) ([v1] : List (List Int)))]⟩
noncomputable def K73_0 (N : Nat) : Kont (Int) := kont (E73) lv73 N c73 [1, 0, 1, 0] (fin TI en73 (resOf Tryd.f73) dec73)
noncomputable def R73_0 (N : Nat) (m : Nat) : TS → Option (Int) := loopK (den (E73) lv73 N (sub c73 [1, 0, 1, 0, 0])) (TS.norm nm73_0) (K73_0 N) m
def l73a (N : Nat) (s0 : List (List Int)) (v1 : List Int) : Nat → Int → Option (Int)
 | 0, _ => none
 | n + 1, t8_a => cond (decide (t8_a < (s0.length : Int))) (chk (decide (0 ≤ t8_a ∧ t8_a < (s0.length : Int))) (cond (DT.beq (.arr 2 (.int .i64)) v1 (s0.getD t8_a.toNat ([(0 : Int), (0 : Int)] : List Int))) (some t8_a)
   ((l73a N s0 v1 n (w64 (t8_a + (1 : Int)))))))
   (some (-1 : Int))
theorem wl73a (N : Nat) (s0 : List (List Int)) (v1 : List Int) (m : Nat) (t8_a : Int) : R73_0 N (m + 1) (Sl73a s0 v1 t8_a) = cond (decide (t8_a < (s0.length : Int))) (chk (decide (0 ≤ t8_a ∧ t8_a < (s0.length : Int))) (cond (DT.beq (.arr 2 (.int .i64)) v1 (s0.getD t8_a.toNat ([(0 : Int), (0 : Int)] : List Int))) (some t8_a)
   ((R73_0 N m (Sl73a s0 v1 (w64 (t8_a + (1 : Int))))))))
   (some (-1 : Int)) := by kernel_rfl
theorem ql73a (N : Nat) (s0 : List (List Int)) (v1 : List Int) : ∀ (m : Nat) (t8_a : Int), R73_0 N m (Sl73a s0 v1 t8_a) = l73a N s0 v1 m t8_a
        | 0, _ => rfl
        | m + 1, t8_a => by rw [wl73a]; simp only [l73a, ql73a N s0 v1 m]
def m73 (N : Nat) (s0 : List (List Int)) (v1 : List Int) : Option (Int) :=
   (l73a N s0 v1 N (0 : Int))
theorem wm73 (N : Nat) (s0 : List (List Int)) (v1 : List Int) : callF (E73) lv73 N en73 c73 (resOf Tryd.f73) 17 [.dv (.sl (.arr 2 (.int .i64))) s0, .dv (.arr 2 (.int .i64)) v1] [] dec73 = (R73_0 N N (Sl73a s0 v1 (0 : Int))) := by kernel_rfl
theorem k73 (N : Nat) (s0 : List (List Int)) (v1 : List Int) : callF (E73) lv73 N en73 c73 (resOf Tryd.f73) 17 [.dv (.sl (.arr 2 (.int .i64))) s0, .dv (.arr 2 (.int .i64)) v1] [] dec73 = m73 N s0 v1 := by rw [wm73]; simp only [m73, ql73a]
theorem ok73 (a : (List (List Int)) → (List Int) → Option (Int)) (h : ∀ s0 v1 r, a s0 v1 = some r → (∃ N, m73 N s0 v1 = some r)) : FnOk Tryd.prog 73 (F73 a) := by
 intro args Of x hx
 simp only [F73] at hx
 split at hx
 ·rename_i s0 v1
  obtain ⟨N, hN⟩ := h _ _ _ hx
  refine lifted (L := []) (rc := nrc) (fz := nfz) (fn := Tryd.f73) (by kernel_rfl) (by kernel_rfl) (by kernel_rfl) (by kernel_rfl) rfl ?_ ((k73 N _ _).trans hN) ?_
  ·intro p hp; cases hp
  ·intro l o hd
   simp only [dec73] at hd
   split at hd
   ·obtain rfl := Option.some.inj hd; exact ⟨rfl, rfl⟩
   ·cases hd
 ·cases hx
def E59 (a73 : Wm0T0) : Env := mkE TI TY [(73, F73 a73)] nrc nfz
noncomputable def c59 : Code := bodyOf Tryd.f59
def lv59 : Nat → Option Norm := norms []
def en59 : End := ⟨[], ⟨[9], [], [], []⟩⟩
def dec59 (l : List TV) (o : List (Nat × TO)) : Option (Bool) := match l, o with | [.dv (.bool) x0], [] => some (x0) | _, _ => none
def m59 (a73 : Wm0T0) (N : Nat) (s0 : List (List Int)) (v1 : List Int) : Option (Bool) :=
   (a73 s0 v1).bind fun r1 =>
   some (decide (r1 ≥ (0 : Int)))
theorem k59 (a73 : Wm0T0) (N : Nat) (s0 : List (List Int)) (v1 : List Int) : callF (E59 a73) lv59 N en59 c59 (resOf Tryd.f59) 7 [.dv (.sl (.arr 2 (.int .i64))) s0, .dv (.arr 2 (.int .i64)) v1] [] dec59 = m59 a73 N s0 v1 := by kernel_rfl
theorem ok59 (a73 : Wm0T0) (h73 : FnOk Tryd.prog 73 (F73 a73)) (a : (List (List Int)) → (List Int) → Option (Bool)) (h : ∀ s0 v1 r, a s0 v1 = some r → (∃ N, m59 a73 N s0 v1 = some r)) : FnOk Tryd.prog 59 (F59 a) := by
 intro args Of x hx
 simp only [F59] at hx
 split at hx
 ·rename_i s0 v1
  obtain ⟨N, hN⟩ := h _ _ _ hx
  refine lifted (L := [(73, F73 a73)]) (rc := nrc) (fz := nfz) (fn := Tryd.f59) (by kernel_rfl) (by kernel_rfl) (by kernel_rfl) (by kernel_rfl) rfl ?_ ((k59 a73 N _ _).trans hN) ?_
  ·intro p hp; simp only [List.mem_cons, List.not_mem_nil, or_false] at hp; rcases hp with rfl; exact h73
  ·intro l o hd
   simp only [dec59] at hd
   split at hd
   ·obtain rfl := Option.some.inj hd; exact ⟨rfl, rfl⟩
   ·cases hd
 ·cases hx
def E38 (a51 : Wm0T1) (a59 : Wm0T2) : Env := mkE TI TY [(51, F51 a51), (59, F59 a59)] nrc nfz
noncomputable def c38 : Code := bodyOf Tryd.f38
def nm38_0 : Norm := ⟨[1, 18, 19, 20], [1], [], []⟩
def lv38 : Nat → Option Norm := norms [(6, nm38_0)]
def en38 : End := ⟨[], ⟨[66], [], [], []⟩⟩
def dec38 (l : List TV) (o : List (Nat × TO)) : Option (Int) := match l, o with | [.dv (.int .i64) x0], [] => some (x0) | _, _ => none
def Sl38a (o0 : Wm0T3) (t20_a : Int) : TS := ⟨slots 66 [(1, .ptr 1 0 []), (18, .dv (.sl (.arr 2 (.int .i64))) o0.2.1), (19, .dv (.int .i64) (o0.2.1.length : Int)), (20, .dv (.int .i64) t20_a)], [(1, .row (.pair (.int .i64) (.pair (.sl (.arr 2 (.int .i64))) (.unit))) ([o0] : List (Int × List (List Int) × Unit)))]⟩
noncomputable def K38_0 (a51 : Wm0T1) (a59 : Wm0T2) (N : Nat) : Kont (Int) := kont (E38 a51 a59) lv38 N c38 [1, 1, 0, 1, 0] (fin TI en38 (resOf Tryd.f38) dec38)
noncomputable def R38_0 (a51 : Wm0T1) (a59 : Wm0T2) (N : Nat) (m : Nat) : TS → Option (Int) := loopK (den (E38 a51 a59) lv38 N (sub c38 [1, 1, 0, 1, 0, 0])) (TS.norm nm38_0) (K38_0 a51 a59 N) m
def l38a (a51 : Wm0T1) (a59 : Wm0T2) (N : Nat) (o0 : Wm0T3) : Nat → Int → Option (Int)
 | 0, _ => none
 | n + 1, t20_a => cond (decide (t20_a < (o0.2.1.length : Int))) (chk (decide (0 ≤ t20_a ∧ t20_a < (o0.2.1.length : Int))) ((a51 (0 : Int) ((o0.2.1.getD t20_a.toNat ([(0 : Int), (0 : Int)] : List Int)).getD 0 (0 : Int)) (w64 (o0.1 - (1 : Int)))).bind fun r2 =>
   cond (!r2) (some (5 : Int))
   ((a51 (0 : Int) ((o0.2.1.getD t20_a.toNat ([(0 : Int), (0 : Int)] : List Int)).getD 1 (0 : Int)) (w64 (o0.1 - (1 : Int)))).bind fun r3 =>
   cond (!r3) (some (5 : Int))
   (cond (((o0.2.1.getD t20_a.toNat ([(0 : Int), (0 : Int)] : List Int)).getD 0 (0 : Int)) == ((o0.2.1.getD t20_a.toNat ([(0 : Int), (0 : Int)] : List Int)).getD 1 (0 : Int))) (some (20 : Int))
   (chk (decide (0 ≤ t20_a ∧ t20_a ≤ (o0.2.1.length : Int))) ((a59 (o0.2.1.take t20_a.toNat) (o0.2.1.getD t20_a.toNat ([(0 : Int), (0 : Int)] : List Int))).bind fun r4 =>
   cond (r4) (some (6 : Int))
   (chk (decide (0 ≤ t20_a ∧ t20_a ≤ (o0.2.1.length : Int))) ((a59 (o0.2.1.take t20_a.toNat) ([(o0.2.1.getD t20_a.toNat ([(0 : Int), (0 : Int)] : List Int)).getD 1 (0 : Int), (o0.2.1.getD t20_a.toNat ([(0 : Int), (0 : Int)] : List Int)).getD 0 (0 : Int)] : List Int)).bind fun r5 =>
   cond (r5) (some (6 : Int))
   ((l38a a51 a59 N o0 n (w64 (t20_a + (1 : Int)))))))))))))
   (some (0 : Int))
theorem wl38a (a51 : Wm0T1) (a59 : Wm0T2) (N : Nat) (o0 : Wm0T3) (m : Nat) (t20_a : Int) : R38_0 a51 a59 N (m + 1) (Sl38a o0 t20_a) = cond (decide (t20_a < (o0.2.1.length : Int))) (chk (decide (0 ≤ t20_a ∧ t20_a < (o0.2.1.length : Int))) ((a51 (0 : Int) ((o0.2.1.getD t20_a.toNat ([(0 : Int), (0 : Int)] : List Int)).getD 0 (0 : Int)) (w64 (o0.1 - (1 : Int)))).bind fun r2 =>
   cond (!r2) (some (5 : Int))
   ((a51 (0 : Int) ((o0.2.1.getD t20_a.toNat ([(0 : Int), (0 : Int)] : List Int)).getD 1 (0 : Int)) (w64 (o0.1 - (1 : Int)))).bind fun r3 =>
   cond (!r3) (some (5 : Int))
   (cond (((o0.2.1.getD t20_a.toNat ([(0 : Int), (0 : Int)] : List Int)).getD 0 (0 : Int)) == ((o0.2.1.getD t20_a.toNat ([(0 : Int), (0 : Int)] : List Int)).getD 1 (0 : Int))) (some (20 : Int))
   (chk (decide (0 ≤ t20_a ∧ t20_a ≤ (o0.2.1.length : Int))) ((a59 (o0.2.1.take t20_a.toNat) (o0.2.1.getD t20_a.toNat ([(0 : Int), (0 : Int)] : List Int))).bind fun r4 =>
   cond (r4) (some (6 : Int))
   (chk (decide (0 ≤ t20_a ∧ t20_a ≤ (o0.2.1.length : Int))) ((a59 (o0.2.1.take t20_a.toNat) ([(o0.2.1.getD t20_a.toNat ([(0 : Int), (0 : Int)] : List Int)).getD 1 (0 : Int), (o0.2.1.getD t20_a.toNat ([(0 : Int), (0 : Int)] : List Int)).getD 0 (0 : Int)] : List Int)).bind fun r5 =>
   cond (r5) (some (6 : Int))
   ((R38_0 a51 a59 N m (Sl38a o0 (w64 (t20_a + (1 : Int))))))))))))))
   (some (0 : Int)) := by kernel_rfl
theorem ql38a (a51 : Wm0T1) (a59 : Wm0T2) (N : Nat) (o0 : Wm0T3) : ∀ (m : Nat) (t20_a : Int), R38_0 a51 a59 N m (Sl38a o0 t20_a) = l38a a51 a59 N o0 m t20_a
        | 0, _ => rfl
        | m + 1, t20_a => by rw [wl38a]; simp only [l38a, ql38a a51 a59 N o0 m]
def m38 (a51 : Wm0T1) (a59 : Wm0T2) (N : Nat) (o0 : Wm0T3) : Option (Int) :=
   (a51 (1 : Int) o0.1 (6 : Int)).bind fun r1 =>
   cond (!r1) (some (3 : Int))
   (cond (decide ((o0.2.1.length : Int) > (15 : Int))) (some (2 : Int))
   ((l38a a51 a59 N o0 N (0 : Int))))
theorem wm38 (a51 : Wm0T1) (a59 : Wm0T2) (N : Nat) (o0 : Wm0T3) : callF (E38 a51 a59) lv38 N en38 c38 (resOf Tryd.f38) 65 [.dv (.pair (.int .i64) (.pair (.sl (.arr 2 (.int .i64))) (.unit))) o0] [] dec38 = (a51 (1 : Int) o0.1 (6 : Int)).bind fun r1 =>
   cond (!r1) (some (3 : Int))
   (cond (decide ((o0.2.1.length : Int) > (15 : Int))) (some (2 : Int))
   ((R38_0 a51 a59 N N (Sl38a o0 (0 : Int))))) := by kernel_rfl
theorem k38 (a51 : Wm0T1) (a59 : Wm0T2) (N : Nat) (o0 : Wm0T3) : callF (E38 a51 a59) lv38 N en38 c38 (resOf Tryd.f38) 65 [.dv (.pair (.int .i64) (.pair (.sl (.arr 2 (.int .i64))) (.unit))) o0] [] dec38 = m38 a51 a59 N o0 := by rw [wm38]; simp only [m38, ql38a]
theorem ok38 (a51 : Wm0T1) (a59 : Wm0T2) (h51 : FnOk Tryd.prog 51 (F51 a51)) (h59 : FnOk Tryd.prog 59 (F59 a59)) (a : (Int × List (List Int) × Unit) → Option (Int)) (h : ∀ o0 r, a o0 = some r → (∃ N, m38 a51 a59 N o0 = some r)) : FnOk Tryd.prog 38 (F38 a) := by
 intro args Of x hx
 simp only [F38] at hx
 split at hx
 ·rename_i o0
  obtain ⟨N, hN⟩ := h _ _ hx
  refine lifted (L := [(51, F51 a51), (59, F59 a59)]) (rc := nrc) (fz := nfz) (fn := Tryd.f38) (by kernel_rfl) (by kernel_rfl) (by kernel_rfl) (by kernel_rfl) rfl ?_ ((k38 a51 a59 N _).trans hN) ?_
  ·intro p hp; simp only [List.mem_cons, List.not_mem_nil, or_false] at hp; rcases hp with rfl | rfl
   ·exact h51
   ·exact h59
  ·intro l o hd
   simp only [dec38] at hd
   split at hd
   ·obtain rfl := Option.some.inj hd; exact ⟨rfl, rfl⟩
   ·cases hd
 ·cases hx
def E41 (a38 : Wm0T4) (a51 : Wm0T1) : Env := mkE TI TY [(38, F38 a38), (51, F51 a51)] nrc nfz
noncomputable def c41 : Code := bodyOf Tryd.f41
def nm41_0 : Norm := ⟨[1, 2, 4, 6, 21, 22], [2, 4, 6], [], []⟩
def nm41_1 : Norm := ⟨[1, 2, 4, 6, 33, 34, 35], [2, 4, 6], [], []⟩
def nm41_2 : Norm := ⟨[2, 4, 6, 58, 59, 60], [2, 4, 6], [], []⟩
def nm41_3 : Norm := ⟨[2, 4, 6, 12, 58, 59, 60, 69, 70], [2, 4, 6], [], []⟩
def lv41 : Nat → Option Norm := norms [(6, nm41_0), (11, nm41_1), (17, nm41_2), (22, nm41_3)]
def en41 : End := ⟨[(87, .arr 6 (.int .u64))], ⟨[87, 88], [], [], []⟩⟩
def dec41 (l : List TV) (o : List (Nat × TO)) : Option (List Int × Int) := match l, o with | [.dv (.arr 6 (.int .u64)) x0, .dv (.int .i64) x1], [] => some (x0, x1) | _, _ => none
def Sl41d (o0 : Wm0T3) (logs1 : List (List UInt8)) (o6_b : Wm0T5) (t60_c : Int) (t70_d : Int) : TS := ⟨slots 87 [(2, .ptr 2 0 []), (4, .ptr 4 0 []), (6, .ptr 6 0 []), (12, .dv (.str) (logs1.getD t60_c.toNat ([] : List UInt8))), (58, .dv (.sl (.str)) logs1), (59, .dv (.int .i64) (logs1.length : Int)), (60, .dv (.int .i64) t60_c), (69, .dv (.int .i64) ((logs1.getD t60_c.toNat ([] : List UInt8)).length : Int)), (70, .dv (.int .i64) t70_d)], [(2, .row (.pair (.int .i64) (.pair (.sl (.arr 2 (.int .i64))) (.unit))) ([o0] : List (Int × List (List Int) × Unit))), (4, .row (.arr 6 (.int .u64)) ([([(0 : Int), (0 : Int), (0 : Int), (0 : Int), (0 : Int), (0 : Int)] : List Int)] : List (List Int))), (6, .row (.arr 6 (.int .u64)) o6_b)]⟩
def Sl41c (o0 : Wm0T3) (logs1 : List (List UInt8)) (o6_b : Wm0T5) (t60_c : Int) : TS := ⟨slots 87 [(2, .ptr 2 0 []), (4, .ptr 4 0 []), (6, .ptr 6 0 []), (58, .dv (.sl (.str)) logs1), (59, .dv (.int .i64) (logs1.length : Int)), (60, .dv (.int .i64) t60_c)], [(2, .row (.pair (.int .i64) (.pair (.sl (.arr 2 (.int .i64))) (.unit))) ([o0] : List (Int × List (List Int) × Unit))), (4, .row (.arr 6 (.int .u64)) ([([(0 : Int), (0 : Int), (0 : Int), (0 : Int), (0 : Int), (0 : Int)] : List Int)] : List (List Int))), (6, .row (.arr 6 (.int .u64)) o6_b)]⟩
def Sl41b (o0 : Wm0T3) (logs1 : List (List UInt8)) (t35_b : Int) (o6_b : Wm0T5) : TS := ⟨slots 87 [(1, .dv (.sl (.str)) logs1), (2, .ptr 2 0 []), (4, .ptr 4 0 []), (6, .ptr 6 0 []), (33, .dv (.sl (.arr 2 (.int .i64))) o0.2.1), (34, .dv (.int .i64) (o0.2.1.length : Int)), (35, .dv (.int .i64) t35_b)], [(2, .row (.pair (.int .i64) (.pair (.sl (.arr 2 (.int .i64))) (.unit))) ([o0] : List (Int × List (List Int) × Unit))), (4, .row (.arr 6 (.int .u64)) ([([(0 : Int), (0 : Int), (0 : Int), (0 : Int), (0 : Int), (0 : Int)] : List Int)] : List (List Int))), (6, .row (.arr 6 (.int .u64)) o6_b)]⟩
def Sl41a (o0 : Wm0T3) (logs1 : List (List UInt8)) (t22_a : Int) (o6_a : Wm0T5) : TS := ⟨slots 87 [(1, .dv (.sl (.str)) logs1), (2, .ptr 2 0 []), (4, .ptr 4 0 []), (6, .ptr 6 0 []), (21, .dv (.int .i64) o0.1), (22, .dv (.int .i64) t22_a)], [(2, .row (.pair (.int .i64) (.pair (.sl (.arr 2 (.int .i64))) (.unit))) ([o0] : List (Int × List (List Int) × Unit))), (4, .row (.arr 6 (.int .u64)) ([([(0 : Int), (0 : Int), (0 : Int), (0 : Int), (0 : Int), (0 : Int)] : List Int)] : List (List Int))), (6, .row (.arr 6 (.int .u64)) o6_a)]⟩
noncomputable def K41_0 (a38 : Wm0T4) (a51 : Wm0T1) (N : Nat) : Kont (List Int × Int) := kont (E41 a38 a51) lv41 N c41 [1, 1, 1, 0, 1, 0] (fin TI en41 (resOf Tryd.f41) dec41)
noncomputable def R41_0 (a38 : Wm0T4) (a51 : Wm0T1) (N : Nat) (m : Nat) : TS → Option (List Int × Int) := loopK (den (E41 a38 a51) lv41 N (sub c41 [1, 1, 1, 0, 1, 0, 0])) (TS.norm nm41_0) (K41_0 a38 a51 N) m
noncomputable def K41_1 (a38 : Wm0T4) (a51 : Wm0T1) (N : Nat) : Kont (List Int × Int) := kont (E41 a38 a51) lv41 N c41 [1, 1, 1, 1, 0, 1, 0] (fin TI en41 (resOf Tryd.f41) dec41)
noncomputable def R41_1 (a38 : Wm0T4) (a51 : Wm0T1) (N : Nat) (m : Nat) : TS → Option (List Int × Int) := loopK (den (E41 a38 a51) lv41 N (sub c41 [1, 1, 1, 1, 0, 1, 0, 0])) (TS.norm nm41_1) (K41_1 a38 a51 N) m
noncomputable def K41_2 (a38 : Wm0T4) (a51 : Wm0T1) (N : Nat) : Kont (List Int × Int) := kont (E41 a38 a51) lv41 N c41 [1, 1, 1, 1, 1, 0, 1, 0] (fin TI en41 (resOf Tryd.f41) dec41)
noncomputable def R41_2 (a38 : Wm0T4) (a51 : Wm0T1) (N : Nat) (m : Nat) : TS → Option (List Int × Int) := loopK (den (E41 a38 a51) lv41 N (sub c41 [1, 1, 1, 1, 1, 0, 1, 0, 0])) (TS.norm nm41_2) (K41_2 a38 a51 N) m
noncomputable def K41_3 (a38 : Wm0T4) (a51 : Wm0T1) (N : Nat) (T41_2 : Wm0T6) : Kont (List Int × Int) := kont (E41 a38 a51) lv41 N (sub c41 [1, 1, 1, 1, 1, 0, 1, 0, 0]) [1, 1, 0, 0, 1, 1, 1, 0] (kloop (TS.norm nm41_2) (K41_2 a38 a51 N) T41_2)
noncomputable def R41_3 (a38 : Wm0T4) (a51 : Wm0T1) (N : Nat) (T41_2 : Wm0T6) (m : Nat) : TS → Option (List Int × Int) := loopK (den (E41 a38 a51) lv41 N (sub c41 [1, 1, 1, 1, 1, 0, 1, 0, 0, 1, 1, 0, 0, 1, 1, 1, 0, 0])) (TS.norm nm41_3) (K41_3 a38 a51 N T41_2) m
def l41d (a38 : Wm0T4) (a51 : Wm0T1) (N : Nat) (o0 : Wm0T3) (logs1 : List (List UInt8)) (o6_b : Wm0T5) (t60_c : Int) (rec_l41c : Int → Option (List Int × Int)) : Nat → Int → Option (List Int × Int)
 | 0, _ => none
 | n + 1, t70_d => cond (decide (t70_d < ((logs1.getD t60_c.toNat ([] : List UInt8)).length : Int))) (chk (decide (0 ≤ t70_d ∧ t70_d < ((logs1.getD t60_c.toNat ([] : List UInt8)).length : Int))) ((a51 (97 : Int) (w64 (((((logs1.getD t60_c.toNat ([] : List UInt8)).getD t70_d.toNat 0).toNat : Nat) : Int))) (w64 ((w64 ((97 : Int) + o0.1)) - (1 : Int)))).bind fun r2 =>
   cond (!r2) (some (o6_b.getD 0 ([(0 : Int), (0 : Int), (0 : Int), (0 : Int), (0 : Int), (0 : Int)] : List Int), (9 : Int)))
   ((l41d a38 a51 N o0 logs1 o6_b t60_c rec_l41c n (w64 (t70_d + (1 : Int)))))))
   ((rec_l41c (w64 (t60_c + (1 : Int)))))
theorem wl41d (a38 : Wm0T4) (a51 : Wm0T1) (N : Nat) (o0 : Wm0T3) (logs1 : List (List UInt8)) (o6_b : Wm0T5) (t60_c : Int) (T41_2 : Wm0T6) (m : Nat) (t70_d : Int) : R41_3 a38 a51 N T41_2 (m + 1) (Sl41d o0 logs1 o6_b t60_c t70_d) = cond (decide (t70_d < ((logs1.getD t60_c.toNat ([] : List UInt8)).length : Int))) (chk (decide (0 ≤ t70_d ∧ t70_d < ((logs1.getD t60_c.toNat ([] : List UInt8)).length : Int))) ((a51 (97 : Int) (w64 (((((logs1.getD t60_c.toNat ([] : List UInt8)).getD t70_d.toNat 0).toNat : Nat) : Int))) (w64 ((w64 ((97 : Int) + o0.1)) - (1 : Int)))).bind fun r2 =>
   cond (!r2) (some (o6_b.getD 0 ([(0 : Int), (0 : Int), (0 : Int), (0 : Int), (0 : Int), (0 : Int)] : List Int), (9 : Int)))
   ((R41_3 a38 a51 N T41_2 m (Sl41d o0 logs1 o6_b t60_c (w64 (t70_d + (1 : Int))))))))
   ((T41_2 (Sl41c o0 logs1 o6_b (w64 (t60_c + (1 : Int)))))) := by kernel_rfl
theorem ql41d (a38 : Wm0T4) (a51 : Wm0T1) (N : Nat) (o0 : Wm0T3) (logs1 : List (List UInt8)) (o6_b : Wm0T5) (t60_c : Int) (T41_2 : Wm0T6) : ∀ (m : Nat) (t70_d : Int), R41_3 a38 a51 N T41_2 m (Sl41d o0 logs1 o6_b t60_c t70_d) = l41d a38 a51 N o0 logs1 o6_b t60_c (fun y0 => T41_2 (Sl41c o0 logs1 o6_b y0)) m t70_d
        | 0, _ => rfl
        | m + 1, t70_d => by rw [wl41d]; simp only [l41d, ql41d a38 a51 N o0 logs1 o6_b t60_c T41_2 m]
def l41c (a38 : Wm0T4) (a51 : Wm0T1) (N : Nat) (o0 : Wm0T3) (logs1 : List (List UInt8)) (o6_b : Wm0T5) : Nat → Int → Option (List Int × Int)
 | 0, _ => none
 | n + 1, t60_c => cond (decide (t60_c < (logs1.length : Int))) (chk (decide (0 ≤ t60_c ∧ t60_c < (logs1.length : Int))) (cond (decide (((logs1.getD t60_c.toNat ([] : List UInt8)).length : Int) > (14 : Int))) (some (o6_b.getD 0 ([(0 : Int), (0 : Int), (0 : Int), (0 : Int), (0 : Int), (0 : Int)] : List Int), (19 : Int)))
   ((l41d a38 a51 N o0 logs1 o6_b t60_c (fun y0 => (l41c a38 a51 N o0 logs1 o6_b n y0)) N (0 : Int)))))
   (some (o6_b.getD 0 ([(0 : Int), (0 : Int), (0 : Int), (0 : Int), (0 : Int), (0 : Int)] : List Int), (0 : Int)))
theorem wl41c (a38 : Wm0T4) (a51 : Wm0T1) (N : Nat) (o0 : Wm0T3) (logs1 : List (List UInt8)) (o6_b : Wm0T5) (m : Nat) (t60_c : Int) : R41_2 a38 a51 N (m + 1) (Sl41c o0 logs1 o6_b t60_c) = cond (decide (t60_c < (logs1.length : Int))) (chk (decide (0 ≤ t60_c ∧ t60_c < (logs1.length : Int))) (cond (decide (((logs1.getD t60_c.toNat ([] : List UInt8)).length : Int) > (14 : Int))) (some (o6_b.getD 0 ([(0 : Int), (0 : Int), (0 : Int), (0 : Int), (0 : Int), (0 : Int)] : List Int), (19 : Int)))
   ((R41_3 a38 a51 N (R41_2 a38 a51 N m) N (Sl41d o0 logs1 o6_b t60_c (0 : Int))))))
   (some (o6_b.getD 0 ([(0 : Int), (0 : Int), (0 : Int), (0 : Int), (0 : Int), (0 : Int)] : List Int), (0 : Int))) := by kernel_rfl
theorem ql41c (a38 : Wm0T4) (a51 : Wm0T1) (N : Nat) (o0 : Wm0T3) (logs1 : List (List UInt8)) (o6_b : Wm0T5) : ∀ (m : Nat) (t60_c : Int), R41_2 a38 a51 N m (Sl41c o0 logs1 o6_b t60_c) = l41c a38 a51 N o0 logs1 o6_b m t60_c
        | 0, _ => rfl
        | m + 1, t60_c => by rw [wl41c]; simp only [l41c, ql41d, ql41c a38 a51 N o0 logs1 o6_b m]
def l41b (a38 : Wm0T4) (a51 : Wm0T1) (N : Nat) (o0 : Wm0T3) (logs1 : List (List UInt8)) : Nat → Int → (List (List Int)) → Option (List Int × Int)
 | 0, _, _ => none
 | n + 1, t35_b, o6_b => cond (decide (t35_b < (o0.2.1.length : Int))) (chk (decide (0 ≤ t35_b ∧ t35_b < (o0.2.1.length : Int))) (chk (decide (0 ≤ (o0.2.1.getD t35_b.toNat ([(0 : Int), (0 : Int)] : List Int)).getD 0 (0 : Int) ∧ (o0.2.1.getD t35_b.toNat ([(0 : Int), (0 : Int)] : List Int)).getD 0 (0 : Int) < (6 : Int))) (chk (decide (0 ≤ (o0.2.1.getD t35_b.toNat ([(0 : Int), (0 : Int)] : List Int)).getD 1 (0 : Int))) (chk (decide (0 ≤ (o0.2.1.getD t35_b.toNat ([(0 : Int), (0 : Int)] : List Int)).getD 0 (0 : Int) ∧ (o0.2.1.getD t35_b.toNat ([(0 : Int), (0 : Int)] : List Int)).getD 0 (0 : Int) < (6 : Int))) (chk ((decide (((o0.2.1.getD t35_b.toNat ([(0 : Int), (0 : Int)] : List Int)).getD 0 (0 : Int)).toNat < (o6_b.getD 0 ([(0 : Int), (0 : Int), (0 : Int), (0 : Int), (0 : Int), (0 : Int)] : List Int)).length)) && (true)) (chk (decide (0 ≤ (o0.2.1.getD t35_b.toNat ([(0 : Int), (0 : Int)] : List Int)).getD 1 (0 : Int) ∧ (o0.2.1.getD t35_b.toNat ([(0 : Int), (0 : Int)] : List Int)).getD 1 (0 : Int) < (6 : Int))) (chk (decide (0 ≤ (o0.2.1.getD t35_b.toNat ([(0 : Int), (0 : Int)] : List Int)).getD 0 (0 : Int))) (chk (decide (0 ≤ (o0.2.1.getD t35_b.toNat ([(0 : Int), (0 : Int)] : List Int)).getD 1 (0 : Int) ∧ (o0.2.1.getD t35_b.toNat ([(0 : Int), (0 : Int)] : List Int)).getD 1 (0 : Int) < (6 : Int))) (chk ((decide (((o0.2.1.getD t35_b.toNat ([(0 : Int), (0 : Int)] : List Int)).getD 1 (0 : Int)).toNat < ((o6_b.set 0 ((o6_b.getD 0 ([(0 : Int), (0 : Int), (0 : Int), (0 : Int), (0 : Int), (0 : Int)] : List Int)).set (((o0.2.1.getD t35_b.toNat ([(0 : Int), (0 : Int)] : List Int)).getD 0 (0 : Int)).toNat) (bAndNot .u64 ((o6_b.getD 0 ([(0 : Int), (0 : Int), (0 : Int), (0 : Int), (0 : Int), (0 : Int)] : List Int)).getD (((o0.2.1.getD t35_b.toNat ([(0 : Int), (0 : Int)] : List Int)).getD 0 (0 : Int)).toNat) (0 : Int)) (IntKind.wrap .u64 ((1 : Int) * 2 ^ min (Int.toNat ((o0.2.1.getD t35_b.toNat ([(0 : Int), (0 : Int)] : List Int)).getD 1 (0 : Int))) 64))))).getD 0 ([(0 : Int), (0 : Int), (0 : Int), (0 : Int), (0 : Int), (0 : Int)] : List Int)).length)) && (true)) ((l41b a38 a51 N o0 logs1 n (w64 (t35_b + (1 : Int))) ((o6_b.set 0 ((o6_b.getD 0 ([(0 : Int), (0 : Int), (0 : Int), (0 : Int), (0 : Int), (0 : Int)] : List Int)).set (((o0.2.1.getD t35_b.toNat ([(0 : Int), (0 : Int)] : List Int)).getD 0 (0 : Int)).toNat) (bAndNot .u64 ((o6_b.getD 0 ([(0 : Int), (0 : Int), (0 : Int), (0 : Int), (0 : Int), (0 : Int)] : List Int)).getD (((o0.2.1.getD t35_b.toNat ([(0 : Int), (0 : Int)] : List Int)).getD 0 (0 : Int)).toNat) (0 : Int)) (IntKind.wrap .u64 ((1 : Int) * 2 ^ min (Int.toNat ((o0.2.1.getD t35_b.toNat ([(0 : Int), (0 : Int)] : List Int)).getD 1 (0 : Int))) 64))))).set 0 (((o6_b.set 0 ((o6_b.getD 0 ([(0 : Int), (0 : Int), (0 : Int), (0 : Int), (0 : Int), (0 : Int)] : List Int)).set (((o0.2.1.getD t35_b.toNat ([(0 : Int), (0 : Int)] : List Int)).getD 0 (0 : Int)).toNat) (bAndNot .u64 ((o6_b.getD 0 ([(0 : Int), (0 : Int), (0 : Int), (0 : Int), (0 : Int), (0 : Int)] : List Int)).getD (((o0.2.1.getD t35_b.toNat ([(0 : Int), (0 : Int)] : List Int)).getD 0 (0 : Int)).toNat) (0 : Int)) (IntKind.wrap .u64 ((1 : Int) * 2 ^ min (Int.toNat ((o0.2.1.getD t35_b.toNat ([(0 : Int), (0 : Int)] : List Int)).getD 1 (0 : Int))) 64))))).getD 0 ([(0 : Int), (0 : Int), (0 : Int), (0 : Int), (0 : Int), (0 : Int)] : List Int)).set (((o0.2.1.getD t35_b.toNat ([(0 : Int), (0 : Int)] : List Int)).getD 1 (0 : Int)).toNat) (bAndNot .u64 (((o6_b.set 0 ((o6_b.getD 0 ([(0 : Int), (0 : Int), (0 : Int), (0 : Int), (0 : Int), (0 : Int)] : List Int)).set (((o0.2.1.getD t35_b.toNat ([(0 : Int), (0 : Int)] : List Int)).getD 0 (0 : Int)).toNat) (bAndNot .u64 ((o6_b.getD 0 ([(0 : Int), (0 : Int), (0 : Int), (0 : Int), (0 : Int), (0 : Int)] : List Int)).getD (((o0.2.1.getD t35_b.toNat ([(0 : Int), (0 : Int)] : List Int)).getD 0 (0 : Int)).toNat) (0 : Int)) (IntKind.wrap .u64 ((1 : Int) * 2 ^ min (Int.toNat ((o0.2.1.getD t35_b.toNat ([(0 : Int), (0 : Int)] : List Int)).getD 1 (0 : Int))) 64))))).getD 0 ([(0 : Int), (0 : Int), (0 : Int), (0 : Int), (0 : Int), (0 : Int)] : List Int)).getD (((o0.2.1.getD t35_b.toNat ([(0 : Int), (0 : Int)] : List Int)).getD 1 (0 : Int)).toNat) (0 : Int)) (IntKind.wrap .u64 ((1 : Int) * 2 ^ min (Int.toNat ((o0.2.1.getD t35_b.toNat ([(0 : Int), (0 : Int)] : List Int)).getD 0 (0 : Int))) 64))))))))))))))))
   ((l41c a38 a51 N o0 logs1 o6_b N (0 : Int)))
theorem wl41b (a38 : Wm0T4) (a51 : Wm0T1) (N : Nat) (o0 : Wm0T3) (logs1 : List (List UInt8)) (m : Nat) (t35_b : Int) (o6_b : Wm0T5) : R41_1 a38 a51 N (m + 1) (Sl41b o0 logs1 t35_b o6_b) = cond (decide (t35_b < (o0.2.1.length : Int))) (chk (decide (0 ≤ t35_b ∧ t35_b < (o0.2.1.length : Int))) (chk (decide (0 ≤ (o0.2.1.getD t35_b.toNat ([(0 : Int), (0 : Int)] : List Int)).getD 0 (0 : Int) ∧ (o0.2.1.getD t35_b.toNat ([(0 : Int), (0 : Int)] : List Int)).getD 0 (0 : Int) < (6 : Int))) (chk (decide (0 ≤ (o0.2.1.getD t35_b.toNat ([(0 : Int), (0 : Int)] : List Int)).getD 1 (0 : Int))) (chk (decide (0 ≤ (o0.2.1.getD t35_b.toNat ([(0 : Int), (0 : Int)] : List Int)).getD 0 (0 : Int) ∧ (o0.2.1.getD t35_b.toNat ([(0 : Int), (0 : Int)] : List Int)).getD 0 (0 : Int) < (6 : Int))) (chk ((decide (((o0.2.1.getD t35_b.toNat ([(0 : Int), (0 : Int)] : List Int)).getD 0 (0 : Int)).toNat < (o6_b.getD 0 ([(0 : Int), (0 : Int), (0 : Int), (0 : Int), (0 : Int), (0 : Int)] : List Int)).length)) && (true)) (chk (decide (0 ≤ (o0.2.1.getD t35_b.toNat ([(0 : Int), (0 : Int)] : List Int)).getD 1 (0 : Int) ∧ (o0.2.1.getD t35_b.toNat ([(0 : Int), (0 : Int)] : List Int)).getD 1 (0 : Int) < (6 : Int))) (chk (decide (0 ≤ (o0.2.1.getD t35_b.toNat ([(0 : Int), (0 : Int)] : List Int)).getD 0 (0 : Int))) (chk (decide (0 ≤ (o0.2.1.getD t35_b.toNat ([(0 : Int), (0 : Int)] : List Int)).getD 1 (0 : Int) ∧ (o0.2.1.getD t35_b.toNat ([(0 : Int), (0 : Int)] : List Int)).getD 1 (0 : Int) < (6 : Int))) (chk ((decide (((o0.2.1.getD t35_b.toNat ([(0 : Int), (0 : Int)] : List Int)).getD 1 (0 : Int)).toNat < ((o6_b.set 0 ((o6_b.getD 0 ([(0 : Int), (0 : Int), (0 : Int), (0 : Int), (0 : Int), (0 : Int)] : List Int)).set (((o0.2.1.getD t35_b.toNat ([(0 : Int), (0 : Int)] : List Int)).getD 0 (0 : Int)).toNat) (bAndNot .u64 ((o6_b.getD 0 ([(0 : Int), (0 : Int), (0 : Int), (0 : Int), (0 : Int), (0 : Int)] : List Int)).getD (((o0.2.1.getD t35_b.toNat ([(0 : Int), (0 : Int)] : List Int)).getD 0 (0 : Int)).toNat) (0 : Int)) (IntKind.wrap .u64 ((1 : Int) * 2 ^ min (Int.toNat ((o0.2.1.getD t35_b.toNat ([(0 : Int), (0 : Int)] : List Int)).getD 1 (0 : Int))) 64))))).getD 0 ([(0 : Int), (0 : Int), (0 : Int), (0 : Int), (0 : Int), (0 : Int)] : List Int)).length)) && (true)) ((R41_1 a38 a51 N m (Sl41b o0 logs1 (w64 (t35_b + (1 : Int))) ((o6_b.set 0 ((o6_b.getD 0 ([(0 : Int), (0 : Int), (0 : Int), (0 : Int), (0 : Int), (0 : Int)] : List Int)).set (((o0.2.1.getD t35_b.toNat ([(0 : Int), (0 : Int)] : List Int)).getD 0 (0 : Int)).toNat) (bAndNot .u64 ((o6_b.getD 0 ([(0 : Int), (0 : Int), (0 : Int), (0 : Int), (0 : Int), (0 : Int)] : List Int)).getD (((o0.2.1.getD t35_b.toNat ([(0 : Int), (0 : Int)] : List Int)).getD 0 (0 : Int)).toNat) (0 : Int)) (IntKind.wrap .u64 ((1 : Int) * 2 ^ min (Int.toNat ((o0.2.1.getD t35_b.toNat ([(0 : Int), (0 : Int)] : List Int)).getD 1 (0 : Int))) 64))))).set 0 (((o6_b.set 0 ((o6_b.getD 0 ([(0 : Int), (0 : Int), (0 : Int), (0 : Int), (0 : Int), (0 : Int)] : List Int)).set (((o0.2.1.getD t35_b.toNat ([(0 : Int), (0 : Int)] : List Int)).getD 0 (0 : Int)).toNat) (bAndNot .u64 ((o6_b.getD 0 ([(0 : Int), (0 : Int), (0 : Int), (0 : Int), (0 : Int), (0 : Int)] : List Int)).getD (((o0.2.1.getD t35_b.toNat ([(0 : Int), (0 : Int)] : List Int)).getD 0 (0 : Int)).toNat) (0 : Int)) (IntKind.wrap .u64 ((1 : Int) * 2 ^ min (Int.toNat ((o0.2.1.getD t35_b.toNat ([(0 : Int), (0 : Int)] : List Int)).getD 1 (0 : Int))) 64))))).getD 0 ([(0 : Int), (0 : Int), (0 : Int), (0 : Int), (0 : Int), (0 : Int)] : List Int)).set (((o0.2.1.getD t35_b.toNat ([(0 : Int), (0 : Int)] : List Int)).getD 1 (0 : Int)).toNat) (bAndNot .u64 (((o6_b.set 0 ((o6_b.getD 0 ([(0 : Int), (0 : Int), (0 : Int), (0 : Int), (0 : Int), (0 : Int)] : List Int)).set (((o0.2.1.getD t35_b.toNat ([(0 : Int), (0 : Int)] : List Int)).getD 0 (0 : Int)).toNat) (bAndNot .u64 ((o6_b.getD 0 ([(0 : Int), (0 : Int), (0 : Int), (0 : Int), (0 : Int), (0 : Int)] : List Int)).getD (((o0.2.1.getD t35_b.toNat ([(0 : Int), (0 : Int)] : List Int)).getD 0 (0 : Int)).toNat) (0 : Int)) (IntKind.wrap .u64 ((1 : Int) * 2 ^ min (Int.toNat ((o0.2.1.getD t35_b.toNat ([(0 : Int), (0 : Int)] : List Int)).getD 1 (0 : Int))) 64))))).getD 0 ([(0 : Int), (0 : Int), (0 : Int), (0 : Int), (0 : Int), (0 : Int)] : List Int)).getD (((o0.2.1.getD t35_b.toNat ([(0 : Int), (0 : Int)] : List Int)).getD 1 (0 : Int)).toNat) (0 : Int)) (IntKind.wrap .u64 ((1 : Int) * 2 ^ min (Int.toNat ((o0.2.1.getD t35_b.toNat ([(0 : Int), (0 : Int)] : List Int)).getD 0 (0 : Int))) 64)))))))))))))))))
   ((R41_2 a38 a51 N N (Sl41c o0 logs1 o6_b (0 : Int)))) := by kernel_rfl
theorem ql41b (a38 : Wm0T4) (a51 : Wm0T1) (N : Nat) (o0 : Wm0T3) (logs1 : List (List UInt8)) : ∀ (m : Nat) (t35_b : Int) (o6_b : Wm0T5), R41_1 a38 a51 N m (Sl41b o0 logs1 t35_b o6_b) = l41b a38 a51 N o0 logs1 m t35_b o6_b
        | 0, _, _ => rfl
        | m + 1, t35_b, o6_b => by rw [wl41b]; simp only [l41b, ql41c, ql41b a38 a51 N o0 logs1 m]
def l41a (a38 : Wm0T4) (a51 : Wm0T1) (N : Nat) (o0 : Wm0T3) (logs1 : List (List UInt8)) : Nat → Int → (List (List Int)) → Option (List Int × Int)
 | 0, _, _ => none
 | n + 1, t22_a, o6_a => cond (decide (t22_a < o0.1)) (chk (decide (0 ≤ o0.1)) (chk (decide (0 ≤ t22_a ∧ t22_a < (6 : Int))) (chk ((decide (t22_a.toNat < (o6_a.getD 0 ([(0 : Int), (0 : Int), (0 : Int), (0 : Int), (0 : Int), (0 : Int)] : List Int)).length)) && (true)) ((l41a a38 a51 N o0 logs1 n (w64 (t22_a + (1 : Int))) (o6_a.set 0 ((o6_a.getD 0 ([(0 : Int), (0 : Int), (0 : Int), (0 : Int), (0 : Int), (0 : Int)] : List Int)).set t22_a.toNat (IntKind.wrap .u64 ((IntKind.wrap .u64 ((1 : Int) * 2 ^ min (Int.toNat o0.1) 64)) - (1 : Int))))))))))
   ((l41b a38 a51 N o0 logs1 N (0 : Int) o6_a))
theorem wl41a (a38 : Wm0T4) (a51 : Wm0T1) (N : Nat) (o0 : Wm0T3) (logs1 : List (List UInt8)) (m : Nat) (t22_a : Int) (o6_a : Wm0T5) : R41_0 a38 a51 N (m + 1) (Sl41a o0 logs1 t22_a o6_a) = cond (decide (t22_a < o0.1)) (chk (decide (0 ≤ o0.1)) (chk (decide (0 ≤ t22_a ∧ t22_a < (6 : Int))) (chk ((decide (t22_a.toNat < (o6_a.getD 0 ([(0 : Int), (0 : Int), (0 : Int), (0 : Int), (0 : Int), (0 : Int)] : List Int)).length)) && (true)) ((R41_0 a38 a51 N m (Sl41a o0 logs1 (w64 (t22_a + (1 : Int))) (o6_a.set 0 ((o6_a.getD 0 ([(0 : Int), (0 : Int), (0 : Int), (0 : Int), (0 : Int), (0 : Int)] : List Int)).set t22_a.toNat (IntKind.wrap .u64 ((IntKind.wrap .u64 ((1 : Int) * 2 ^ min (Int.toNat o0.1) 64)) - (1 : Int)))))))))))
   ((R41_1 a38 a51 N N (Sl41b o0 logs1 (0 : Int) o6_a))) := by kernel_rfl
theorem ql41a (a38 : Wm0T4) (a51 : Wm0T1) (N : Nat) (o0 : Wm0T3) (logs1 : List (List UInt8)) : ∀ (m : Nat) (t22_a : Int) (o6_a : Wm0T5), R41_0 a38 a51 N m (Sl41a o0 logs1 t22_a o6_a) = l41a a38 a51 N o0 logs1 m t22_a o6_a
        | 0, _, _ => rfl
        | m + 1, t22_a, o6_a => by rw [wl41a]; simp only [l41a, ql41b, ql41a a38 a51 N o0 logs1 m]
def m41 (a38 : Wm0T4) (a51 : Wm0T1) (N : Nat) (o0 : Wm0T3) (logs1 : List (List UInt8)) : Option (List Int × Int) :=
   (a38 o0).bind fun r1 =>
   cond (r1 != (0 : Int)) (some (([(0 : Int), (0 : Int), (0 : Int), (0 : Int), (0 : Int), (0 : Int)] : List Int), r1))
   ((l41a a38 a51 N o0 logs1 N (0 : Int) ([([(0 : Int), (0 : Int), (0 : Int), (0 : Int), (0 : Int), (0 : Int)] : List Int)] : List (List Int))))
theorem wm41 (a38 : Wm0T4) (a51 : Wm0T1) (N : Nat) (o0 : Wm0T3) (logs1 : List (List UInt8)) : callF (E41 a38 a51) lv41 N en41 c41 (resOf Tryd.f41) 85 [.dv (.pair (.int .i64) (.pair (.sl (.arr 2 (.int .i64))) (.unit))) o0, .dv (.sl (.str)) logs1] [] dec41 = (a38 o0).bind fun r1 =>
   cond (r1 != (0 : Int)) (some (([(0 : Int), (0 : Int), (0 : Int), (0 : Int), (0 : Int), (0 : Int)] : List Int), r1))
   ((R41_0 a38 a51 N N (Sl41a o0 logs1 (0 : Int) ([([(0 : Int), (0 : Int), (0 : Int), (0 : Int), (0 : Int), (0 : Int)] : List Int)] : List (List Int))))) := by kernel_rfl
theorem k41 (a38 : Wm0T4) (a51 : Wm0T1) (N : Nat) (o0 : Wm0T3) (logs1 : List (List UInt8)) : callF (E41 a38 a51) lv41 N en41 c41 (resOf Tryd.f41) 85 [.dv (.pair (.int .i64) (.pair (.sl (.arr 2 (.int .i64))) (.unit))) o0, .dv (.sl (.str)) logs1] [] dec41 = m41 a38 a51 N o0 logs1 := by rw [wm41]; simp only [m41, ql41a]
theorem ok41 (a38 : Wm0T4) (a51 : Wm0T1) (h38 : FnOk Tryd.prog 38 (F38 a38)) (h51 : FnOk Tryd.prog 51 (F51 a51)) (a : (Int × List (List Int) × Unit) → (List (List UInt8)) → Option (List Int × Int)) (h : ∀ o0 logs1 r, a o0 logs1 = some r → (∃ N, m41 a38 a51 N o0 logs1 = some r)) : FnOk Tryd.prog 41 (F41 a) := by
 intro args Of x hx
 simp only [F41] at hx
 split at hx
 ·rename_i o0 logs1
  obtain ⟨N, hN⟩ := h _ _ _ hx
  refine lifted (L := [(38, F38 a38), (51, F51 a51)]) (rc := nrc) (fz := nfz) (fn := Tryd.f41) (by kernel_rfl) (by kernel_rfl) (by kernel_rfl) (by kernel_rfl) rfl ?_ ((k41 a38 a51 N _ _).trans hN) ?_
  ·intro p hp; simp only [List.mem_cons, List.not_mem_nil, or_false] at hp; rcases hp with rfl | rfl
   ·exact h38
   ·exact h51
  ·intro l o hd
   simp only [dec41] at hd
   split at hd
   ·obtain rfl := Option.some.inj hd; exact ⟨rfl, rfl⟩
   ·cases hd
 ·cases hx
def E61c : Env := mkE TI TY [] nrc nfz
noncomputable def c61c : Code := bodyOf Tryd.f61
def nm61c_0 : Norm := ⟨[0, 11, 12], [9000, 9001], [], []⟩
def lv61c : Nat → Option Norm := norms [(2, nm61c_0)]
def en61c : End := ⟨[], ⟨[], [9000, 9001], [], []⟩⟩
def dec61c (l : List TV) (o : List (Nat × TO)) : Option (List Int × List UInt8 × List (Int × Bool)) := match l, o with | [], [(9000, .rcd [.dv (.arr 6 (.int .u64)) x0, .dv (.str) x1, .row 9001]), (9001, .map (.int .i64) (.bool) x2)] => some (x0, x1, x2) | _, _ => none
def Sl61ca (p0 : List Int) (p1 : List UInt8) (t12_a : Int) (o9001_a : Wm0T7) : TS := ⟨slots 21 [(0, .ptr 9000 0 []), (11, .dv (.int .i64) (p1.length : Int)), (12, .dv (.int .i64) t12_a)], [(9000, .rcd [.dv (.arr 6 (.int .u64)) p0, .dv (.str) p1, .row 9001]), (9001, .map (.int .i64) (.bool) o9001_a)]⟩
noncomputable def K61c_0 (N : Nat) : Kont (List Int × List UInt8 × List (Int × Bool)) := kont (E61c) lv61c N c61c [1, 1, 0] (fin TI en61c (resOf Tryd.f61) dec61c)
noncomputable def R61c_0 (N : Nat) (m : Nat) : TS → Option (List Int × List UInt8 × List (Int × Bool)) := loopK (den (E61c) lv61c N (sub c61c [1, 1, 0, 0])) (TS.norm nm61c_0) (K61c_0 N) m
def l61ca (N : Nat) (p0 : List Int) (p1 : List UInt8) : Nat → Int → (List (Int × Bool)) → Option (List Int × List UInt8 × List (Int × Bool))
 | 0, _, _ => none
 | n + 1, t12_a, o9001_a => cond (decide (t12_a < (p1.length : Int))) ((l61ca N p0 p1 n (w64 (t12_a + (1 : Int))) (mput (kt := .int .i64) (vt := .bool) o9001_a t12_a true)))
   (some (p0, p1, o9001_a))
theorem wl61ca (N : Nat) (p0 : List Int) (p1 : List UInt8) (m : Nat) (t12_a : Int) (o9001_a : Wm0T7) : R61c_0 N (m + 1) (Sl61ca p0 p1 t12_a o9001_a) = cond (decide (t12_a < (p1.length : Int))) ((R61c_0 N m (Sl61ca p0 p1 (w64 (t12_a + (1 : Int))) (mput (kt := .int .i64) (vt := .bool) o9001_a t12_a true))))
   (some (p0, p1, o9001_a)) := by kernel_rfl
theorem ql61ca (N : Nat) (p0 : List Int) (p1 : List UInt8) : ∀ (m : Nat) (t12_a : Int) (o9001_a : Wm0T7), R61c_0 N m (Sl61ca p0 p1 t12_a o9001_a) = l61ca N p0 p1 m t12_a o9001_a
        | 0, _, _ => rfl
        | m + 1, t12_a, o9001_a => by rw [wl61ca]; simp only [l61ca, ql61ca N p0 p1 m]
def m61c (N : Nat) (p0 : List Int) (p1 : List UInt8) (p2 : List (Int × Bool)) : Option (List Int × List UInt8 × List (Int × Bool)) :=
   (l61ca N p0 p1 N (0 : Int) ([] : List (Int × Bool)))
theorem wm61c (N : Nat) (p0 : List Int) (p1 : List UInt8) (p2 : List (Int × Bool)) : callF (E61c) lv61c N en61c c61c (resOf Tryd.f61) 20 [.ptr 9000 0 []] [(9000, .rcd [.dv (.arr 6 (.int .u64)) p0, .dv (.str) p1, .row 9001]), (9001, .map (.int .i64) (.bool) p2)] dec61c = (R61c_0 N N (Sl61ca p0 p1 (0 : Int) ([] : List (Int × Bool)))) := by kernel_rfl
theorem k61c (N : Nat) (p0 : List Int) (p1 : List UInt8) (p2 : List (Int × Bool)) : callF (E61c) lv61c N en61c c61c (resOf Tryd.f61) 20 [.ptr 9000 0 []] [(9000, .rcd [.dv (.arr 6 (.int .u64)) p0, .dv (.str) p1, .row 9001]), (9001, .map (.int .i64) (.bool) p2)] dec61c = m61c N p0 p1 p2 := by rw [wm61c]; simp only [m61c, ql61ca]
theorem ok61c (a : (List Int) → (List UInt8) → (List (Int × Bool)) → Option (List Int × List UInt8 × List (Int × Bool))) (h : ∀ p0 p1 p2 r, a p0 p1 p2 = some r → (∃ N, m61c N p0 p1 p2 = some r)) : FnOk Tryd.prog 61 (F61c a) := by
 intro args Of x hx
 simp only [F61c] at hx
 split at hx
 ·rename_i p0 p1 p2
  obtain ⟨N, hN⟩ := h _ _ _ _ hx
  refine lifted (L := []) (rc := nrc) (fz := nfz) (fn := Tryd.f61) (by kernel_rfl) (by kernel_rfl) (by kernel_rfl) (by kernel_rfl) rfl ?_ ((k61c N _ _ _).trans hN) ?_
  ·intro p hp; cases hp
  ·intro l o hd
   simp only [dec61c] at hd
   split at hd
   ·obtain rfl := Option.some.inj hd; exact ⟨rfl, rfl⟩
   ·cases hd
 ·cases hx
def E42 (a61c : Wm0T8) : Env := mkE TI TY [(61, F61c a61c)] (fun i => ([(10, [some (.arr 6 (.int .u64)), some (.str), none]), (9, [some (.arr 6 (.int .u64)), some (.str), none])] : List (Nat × List (Option DT))).lookup i) nfz
noncomputable def c42 : Code := bodyOf Tryd.f42
def lv42 : Nat → Option Norm := norms []
def en42 : End := ⟨[], ⟨[14], [8, 10], [], []⟩⟩
def dec42 (l : List TV) (o : List (Nat × TO)) : Option (List (Int × Bool) × List Int × List UInt8) := match l, o with | [.ptr 10 0 []], [(8, .map (.int .i64) (.bool) x0), (10, .rcd [.dv (.arr 6 (.int .u64)) x1, .dv (.str) x2, .row 8])] => some (x0, x1, x2) | _, _ => none
def m42 (a61c : Wm0T8) (N : Nat) (d0 : List Int) (log1 : List UInt8) : Option (List (Int × Bool) × List Int × List UInt8) :=
   (a61c d0 log1 ([] : List (Int × Bool))).bind fun r1 =>
   some (r1.2.2, r1.1, r1.2.1)
theorem k42 (a61c : Wm0T8) (N : Nat) (d0 : List Int) (log1 : List UInt8) : callF (E42 a61c) lv42 N en42 c42 (resOf Tryd.f42) 12 [.dv (.arr 6 (.int .u64)) d0, .dv (.str) log1] [] dec42 = m42 a61c N d0 log1 := by kernel_rfl
theorem ok42 (a61c : Wm0T8) (h61c : FnOk Tryd.prog 61 (F61c a61c)) (a : (List Int) → (List UInt8) → Option (List (Int × Bool) × List Int × List UInt8)) (h : ∀ d0 log1 r, a d0 log1 = some r → (∃ N, m42 a61c N d0 log1 = some r)) : FnOk Tryd.prog 42 (F42 a) := by
 intro args Of x hx
 simp only [F42] at hx
 split at hx
 ·rename_i d0 log1
  obtain ⟨N, hN⟩ := h _ _ _ hx
  refine lifted (L := [(61, F61c a61c)]) (rc := (fun i => ([(10, [some (.arr 6 (.int .u64)), some (.str), none]), (9, [some (.arr 6 (.int .u64)), some (.str), none])] : List (Nat × List (Option DT))).lookup i)) (fz := nfz) (fn := Tryd.f42) (by kernel_rfl) (by kernel_rfl) (by kernel_rfl) (by kernel_rfl) rfl ?_ ((k42 a61c N _ _).trans hN) ?_
  ·intro p hp; simp only [List.mem_cons, List.not_mem_nil, or_false] at hp; rcases hp with rfl; exact h61c
  ·intro l o hd
   simp only [dec42] at hd
   split at hd
   ·obtain rfl := Option.some.inj hd; exact ⟨rfl, rfl⟩
   ·cases hd
 ·cases hx
def E49 : Env := mkE TI TY [] nrc nfz
noncomputable def c49 : Code := bodyOf Tryd.f49
def lv49 : Nat → Option Norm := norms []
def en49 : End := ⟨[], ⟨[16], [], [], []⟩⟩
def dec49 (l : List TV) (o : List (Nat × TO)) : Option (Bool) := match l, o with | [.dv (.bool) x0], [] => some (x0) | _, _ => none
def m49 (N : Nat) (d0 : List Int) (x1 : Int) (y2 : Int) : Option (Bool) :=
   chk (decide (0 ≤ IntKind.wrap .u8 (x1 - (97 : Int)) ∧ IntKind.wrap .u8 (x1 - (97 : Int)) < (6 : Int))) (chk (decide (0 ≤ IntKind.wrap .u8 (y2 - (97 : Int)))) (some ((bAnd .u64 (Int.fdiv (d0.getD ((IntKind.wrap .u8 (x1 - (97 : Int))).toNat) (0 : Int)) (2 ^ min (Int.toNat (IntKind.wrap .u8 (y2 - (97 : Int)))) 64)) (1 : Int)) == (1 : Int))))
theorem k49 (N : Nat) (d0 : List Int) (x1 : Int) (y2 : Int) : callF (E49) lv49 N en49 c49 (resOf Tryd.f49) 13 [.dv (.arr 6 (.int .u64)) d0, .dv (.int .u8) x1, .dv (.int .u8) y2] [] dec49 = m49 N d0 x1 y2 := by kernel_rfl
theorem ok49 (a : (List Int) → Int → Int → Option (Bool)) (h : ∀ d0 x1 y2 r, a d0 x1 y2 = some r → (∃ N, m49 N d0 x1 y2 = some r)) : FnOk Tryd.prog 49 (F49 a) := by
 intro args Of x hx
 simp only [F49] at hx
 split at hx
 ·rename_i d0 x1 y2
  obtain ⟨N, hN⟩ := h _ _ _ _ hx
  refine lifted (L := []) (rc := nrc) (fz := nfz) (fn := Tryd.f49) (by kernel_rfl) (by kernel_rfl) (by kernel_rfl) (by kernel_rfl) rfl ?_ ((k49 N _ _ _).trans hN) ?_
  ·intro p hp; cases hp
  ·intro l o hd
   simp only [dec49] at hd
   split at hd
   ·obtain rfl := Option.some.inj hd; exact ⟨rfl, rfl⟩
   ·cases hd
 ·cases hx
def E46c (a49 : Wm0T9) : Env := mkE TI TY [(49, F49 a49)] nrc nfz
noncomputable def c46c : Code := bodyOf Tryd.f46
def nm46c_0 : Norm := ⟨[0, 1, 13, 14], [9000, 9001], [], []⟩
def lv46c : Nat → Option Norm := norms [(4, nm46c_0)]
def en46c : End := ⟨[], ⟨[43], [9000, 9001], [], []⟩⟩
def dec46c (l : List TV) (o : List (Nat × TO)) : Option (Bool × List Int × List UInt8 × List (Int × Bool)) := match l, o with | [.dv (.bool) x0], [(9000, .rcd [.dv (.arr 6 (.int .u64)) x1, .dv (.str) x2, .row 9001]), (9001, .map (.int .i64) (.bool) x3)] => some (x0, x1, x2, x3) | _, _ => none
def Sl46ca (i1 : Int) (p1 : List Int) (p2 : List UInt8) (p3 : List (Int × Bool)) (t14_a : Int) : TS := ⟨slots 43 [(0, .ptr 9000 0 []), (1, .dv (.int .i64) i1), (13, .dv (.int .i64) i1), (14, .dv (.int .i64) t14_a)], [(9000, .rcd [.dv (.arr 6 (.int .u64)) p1, .dv (.str) p2, .row 9001]), (9001, .map (.int .i64) (.bool) p3)]⟩
noncomputable def K46c_0 (a49 : Wm0T9) (N : Nat) : Kont (Bool × List Int × List UInt8 × List (Int × Bool)) := kont (E46c a49) lv46c N c46c [1, 1, 0, 1, 0] (fin TI en46c (resOf Tryd.f46) dec46c)
noncomputable def R46c_0 (a49 : Wm0T9) (N : Nat) (m : Nat) : TS → Option (Bool × List Int × List UInt8 × List (Int × Bool)) := loopK (den (E46c a49) lv46c N (sub c46c [1, 1, 0, 1, 0, 0])) (TS.norm nm46c_0) (K46c_0 a49 N) m
def l46ca (a49 : Wm0T9) (N : Nat) (i1 : Int) (p1 : List Int) (p2 : List UInt8) (p3 : List (Int × Bool)) : Nat → Int → Option (Bool × List Int × List UInt8 × List (Int × Bool))
 | 0, _ => none
 | n + 1, t14_a => cond (decide (t14_a < i1)) (cond ((mget (kt := .int .i64) (vt := .bool) p3 t14_a).getD false) (chk (decide (0 ≤ t14_a ∧ t14_a < (p2.length : Int))) (chk (decide (0 ≤ i1 ∧ i1 < (p2.length : Int))) ((a49 p1 (((p2.getD t14_a.toNat 0).toNat : Nat) : Int) (((p2.getD i1.toNat 0).toNat : Nat) : Int)).bind fun r1 =>
   cond (r1) (some (false, p1, p2, p3))
   ((l46ca a49 N i1 p1 p2 p3 n (w64 (t14_a + (1 : Int))))))))
   ((l46ca a49 N i1 p1 p2 p3 n (w64 (t14_a + (1 : Int))))))
   (some (true, p1, p2, p3))
theorem wl46ca (a49 : Wm0T9) (N : Nat) (i1 : Int) (p1 : List Int) (p2 : List UInt8) (p3 : List (Int × Bool)) (m : Nat) (t14_a : Int) : R46c_0 a49 N (m + 1) (Sl46ca i1 p1 p2 p3 t14_a) = cond (decide (t14_a < i1)) (cond ((mget (kt := .int .i64) (vt := .bool) p3 t14_a).getD false) (chk (decide (0 ≤ t14_a ∧ t14_a < (p2.length : Int))) (chk (decide (0 ≤ i1 ∧ i1 < (p2.length : Int))) ((a49 p1 (((p2.getD t14_a.toNat 0).toNat : Nat) : Int) (((p2.getD i1.toNat 0).toNat : Nat) : Int)).bind fun r1 =>
   cond (r1) (some (false, p1, p2, p3))
   ((R46c_0 a49 N m (Sl46ca i1 p1 p2 p3 (w64 (t14_a + (1 : Int)))))))))
   ((R46c_0 a49 N m (Sl46ca i1 p1 p2 p3 (w64 (t14_a + (1 : Int)))))))
   (some (true, p1, p2, p3)) := by kernel_rfl
theorem ql46ca (a49 : Wm0T9) (N : Nat) (i1 : Int) (p1 : List Int) (p2 : List UInt8) (p3 : List (Int × Bool)) : ∀ (m : Nat) (t14_a : Int), R46c_0 a49 N m (Sl46ca i1 p1 p2 p3 t14_a) = l46ca a49 N i1 p1 p2 p3 m t14_a
        | 0, _ => rfl
        | m + 1, t14_a => by rw [wl46ca]; simp only [l46ca, ql46ca a49 N i1 p1 p2 p3 m]
def m46c (a49 : Wm0T9) (N : Nat) (i1 : Int) (p1 : List Int) (p2 : List UInt8) (p3 : List (Int × Bool)) : Option (Bool × List Int × List UInt8 × List (Int × Bool)) :=
   cond (!((mget (kt := .int .i64) (vt := .bool) p3 i1).getD false)) (some (false, p1, p2, p3))
   ((l46ca a49 N i1 p1 p2 p3 N (0 : Int)))
theorem wm46c (a49 : Wm0T9) (N : Nat) (i1 : Int) (p1 : List Int) (p2 : List UInt8) (p3 : List (Int × Bool)) : callF (E46c a49) lv46c N en46c c46c (resOf Tryd.f46) 41 [.ptr 9000 0 [], .dv (.int .i64) i1] [(9000, .rcd [.dv (.arr 6 (.int .u64)) p1, .dv (.str) p2, .row 9001]), (9001, .map (.int .i64) (.bool) p3)] dec46c = cond (!((mget (kt := .int .i64) (vt := .bool) p3 i1).getD false)) (some (false, p1, p2, p3))
   ((R46c_0 a49 N N (Sl46ca i1 p1 p2 p3 (0 : Int)))) := by kernel_rfl
theorem k46c (a49 : Wm0T9) (N : Nat) (i1 : Int) (p1 : List Int) (p2 : List UInt8) (p3 : List (Int × Bool)) : callF (E46c a49) lv46c N en46c c46c (resOf Tryd.f46) 41 [.ptr 9000 0 [], .dv (.int .i64) i1] [(9000, .rcd [.dv (.arr 6 (.int .u64)) p1, .dv (.str) p2, .row 9001]), (9001, .map (.int .i64) (.bool) p3)] dec46c = m46c a49 N i1 p1 p2 p3 := by rw [wm46c]; simp only [m46c, ql46ca]
theorem ok46c (a49 : Wm0T9) (h49 : FnOk Tryd.prog 49 (F49 a49)) (a : Int → (List Int) → (List UInt8) → (List (Int × Bool)) → Option (Bool × List Int × List UInt8 × List (Int × Bool))) (h : ∀ i1 p1 p2 p3 r, a i1 p1 p2 p3 = some r → (∃ N, m46c a49 N i1 p1 p2 p3 = some r)) : FnOk Tryd.prog 46 (F46c a) := by
 intro args Of x hx
 simp only [F46c] at hx
 split at hx
 ·rename_i i1 p1 p2 p3
  obtain ⟨N, hN⟩ := h _ _ _ _ _ hx
  refine lifted (L := [(49, F49 a49)]) (rc := nrc) (fz := nfz) (fn := Tryd.f46) (by kernel_rfl) (by kernel_rfl) (by kernel_rfl) (by kernel_rfl) rfl ?_ ((k46c a49 N _ _ _ _).trans hN) ?_
  ·intro p hp; simp only [List.mem_cons, List.not_mem_nil, or_false] at hp; rcases hp with rfl; exact h49
  ·intro l o hd
   simp only [dec46c] at hd
   split at hd
   ·obtain rfl := Option.some.inj hd; exact ⟨rfl, rfl⟩
   ·cases hd
 ·cases hx
def E53c (a46c : Wm0T10) : Env := mkE TI TY [(46, F46c a46c)] nrc nfz
noncomputable def c53c : Code := bodyOf Tryd.f53
def nm53c_0 : Norm := ⟨[0, 1, 11, 12], [9000, 9001], [], []⟩
def lv53c : Nat → Option Norm := norms [(2, nm53c_0)]
def en53c : End := ⟨[], ⟨[30, 31], [9000, 9001], [], []⟩⟩
def dec53c (l : List TV) (o : List (Nat × TO)) : Option (Int × Bool × List Int × List UInt8 × List (Int × Bool)) := match l, o with | [.dv (.int .i64) x0, .dv (.bool) x1], [(9000, .rcd [.dv (.arr 6 (.int .u64)) x2, .dv (.str) x3, .row 9001]), (9001, .map (.int .i64) (.bool) x4)] => some (x0, x1, x2, x3, x4) | _, _ => none
def Sl53ca (kind1 : Int) (p2 : List UInt8) (t12_a : Int) (o9000_af0 : List Int) (o9000_af1 : List UInt8) (o9001_a : Wm0T7) : TS := ⟨slots 30 [(0, .ptr 9000 0 []), (1, .dv (.int .u8) kind1), (11, .dv (.int .i64) (p2.length : Int)), (12, .dv (.int .i64) t12_a)], [(9000, .rcd [.dv (.arr 6 (.int .u64)) o9000_af0, .dv (.str) o9000_af1, .row 9001]), (9001, .map (.int .i64) (.bool) o9001_a)]⟩
noncomputable def K53c_0 (a46c : Wm0T10) (N : Nat) : Kont (Int × Bool × List Int × List UInt8 × List (Int × Bool)) := kont (E53c a46c) lv53c N c53c [1, 0, 1, 0] (fin TI en53c (resOf Tryd.f53) dec53c)
noncomputable def R53c_0 (a46c : Wm0T10) (N : Nat) (m : Nat) : TS → Option (Int × Bool × List Int × List UInt8 × List (Int × Bool)) := loopK (den (E53c a46c) lv53c N (sub c53c [1, 0, 1, 0, 0])) (TS.norm nm53c_0) (K53c_0 a46c N) m
def l53ca (a46c : Wm0T10) (N : Nat) (kind1 : Int) (p2 : List UInt8) : Nat → Int → (List Int) → (List UInt8) → (List (Int × Bool)) → Option (Int × Bool × List Int × List UInt8 × List (Int × Bool))
 | 0, _, _, _, _ => none
 | n + 1, t12_a, o9000_af0, o9000_af1, o9001_a => cond (decide (t12_a < (p2.length : Int))) (chk (decide (0 ≤ t12_a ∧ t12_a < (o9000_af1.length : Int))) (cond ((((o9000_af1.getD t12_a.toNat 0).toNat : Nat) : Int) == kind1) ((a46c t12_a o9000_af0 o9000_af1 o9001_a).bind fun r1 =>
   cond (r1.1) (some (t12_a, true, r1.2.1, r1.2.2.1, r1.2.2.2))
   ((l53ca a46c N kind1 p2 n (w64 (t12_a + (1 : Int))) r1.2.1 r1.2.2.1 r1.2.2.2)))
   ((l53ca a46c N kind1 p2 n (w64 (t12_a + (1 : Int))) o9000_af0 o9000_af1 o9001_a))))
   (some ((0 : Int), false, o9000_af0, o9000_af1, o9001_a))
theorem wl53ca (a46c : Wm0T10) (N : Nat) (kind1 : Int) (p2 : List UInt8) (m : Nat) (t12_a : Int) (o9000_af0 : List Int) (o9000_af1 : List UInt8) (o9001_a : Wm0T7) : R53c_0 a46c N (m + 1) (Sl53ca kind1 p2 t12_a o9000_af0 o9000_af1 o9001_a) = cond (decide (t12_a < (p2.length : Int))) (chk (decide (0 ≤ t12_a ∧ t12_a < (o9000_af1.length : Int))) (cond ((((o9000_af1.getD t12_a.toNat 0).toNat : Nat) : Int) == kind1) ((a46c t12_a o9000_af0 o9000_af1 o9001_a).bind fun r1 =>
   cond (r1.1) (some (t12_a, true, r1.2.1, r1.2.2.1, r1.2.2.2))
   ((R53c_0 a46c N m (Sl53ca kind1 p2 (w64 (t12_a + (1 : Int))) r1.2.1 r1.2.2.1 r1.2.2.2))))
   ((R53c_0 a46c N m (Sl53ca kind1 p2 (w64 (t12_a + (1 : Int))) o9000_af0 o9000_af1 o9001_a)))))
   (some ((0 : Int), false, o9000_af0, o9000_af1, o9001_a)) := by kernel_rfl
theorem ql53ca (a46c : Wm0T10) (N : Nat) (kind1 : Int) (p2 : List UInt8) : ∀ (m : Nat) (t12_a : Int) (o9000_af0 : List Int) (o9000_af1 : List UInt8) (o9001_a : Wm0T7), R53c_0 a46c N m (Sl53ca kind1 p2 t12_a o9000_af0 o9000_af1 o9001_a) = l53ca a46c N kind1 p2 m t12_a o9000_af0 o9000_af1 o9001_a
        | 0, _, _, _, _ => rfl
        | m + 1, t12_a, o9000_af0, o9000_af1, o9001_a => by rw [wl53ca]; simp only [l53ca, ql53ca a46c N kind1 p2 m]
def m53c (a46c : Wm0T10) (N : Nat) (kind1 : Int) (p1 : List Int) (p2 : List UInt8) (p3 : List (Int × Bool)) : Option (Int × Bool × List Int × List UInt8 × List (Int × Bool)) :=
   (l53ca a46c N kind1 p2 N (0 : Int) p1 p2 p3)
theorem wm53c (a46c : Wm0T10) (N : Nat) (kind1 : Int) (p1 : List Int) (p2 : List UInt8) (p3 : List (Int × Bool)) : callF (E53c a46c) lv53c N en53c c53c (resOf Tryd.f53) 28 [.ptr 9000 0 [], .dv (.int .u8) kind1] [(9000, .rcd [.dv (.arr 6 (.int .u64)) p1, .dv (.str) p2, .row 9001]), (9001, .map (.int .i64) (.bool) p3)] dec53c = (R53c_0 a46c N N (Sl53ca kind1 p2 (0 : Int) p1 p2 p3)) := by kernel_rfl
theorem k53c (a46c : Wm0T10) (N : Nat) (kind1 : Int) (p1 : List Int) (p2 : List UInt8) (p3 : List (Int × Bool)) : callF (E53c a46c) lv53c N en53c c53c (resOf Tryd.f53) 28 [.ptr 9000 0 [], .dv (.int .u8) kind1] [(9000, .rcd [.dv (.arr 6 (.int .u64)) p1, .dv (.str) p2, .row 9001]), (9001, .map (.int .i64) (.bool) p3)] dec53c = m53c a46c N kind1 p1 p2 p3 := by rw [wm53c]; simp only [m53c, ql53ca]
theorem ok53c (a46c : Wm0T10) (h46c : FnOk Tryd.prog 46 (F46c a46c)) (a : Int → (List Int) → (List UInt8) → (List (Int × Bool)) → Option (Int × Bool × List Int × List UInt8 × List (Int × Bool))) (h : ∀ kind1 p1 p2 p3 r, a kind1 p1 p2 p3 = some r → (∃ N, m53c a46c N kind1 p1 p2 p3 = some r)) : FnOk Tryd.prog 53 (F53c a) := by
 intro args Of x hx
 simp only [F53c] at hx
 split at hx
 ·rename_i kind1 p1 p2 p3
  obtain ⟨N, hN⟩ := h _ _ _ _ _ hx
  refine lifted (L := [(46, F46c a46c)]) (rc := nrc) (fz := nfz) (fn := Tryd.f53) (by kernel_rfl) (by kernel_rfl) (by kernel_rfl) (by kernel_rfl) rfl ?_ ((k53c a46c N _ _ _ _).trans hN) ?_
  ·intro p hp; simp only [List.mem_cons, List.not_mem_nil, or_false] at hp; rcases hp with rfl; exact h46c
  ·intro l o hd
   simp only [dec53c] at hd
   split at hd
   ·obtain rfl := Option.some.inj hd; exact ⟨rfl, rfl⟩
   ·cases hd
 ·cases hx
def E13 (a41 : Wm0T11) (a42 : Wm0T12) (a43c : Wm0T13) : Env := mkE TI TY [(41, F41 a41), (42, F42 a42), (43, F43c a43c)] nrc nfz
noncomputable def c13 : Code := bodyOf Tryd.f13
def lv13 : Nat → Option Norm := norms []
def en13 : End := ⟨[], ⟨[22, 23], [], [], []⟩⟩
def dec13 (l : List TV) (o : List (Nat × TO)) : Option (List UInt8 × Int) := match l, o with | [.dv (.str) x0, .dv (.int .i64) x1], [] => some (x0, x1) | _, _ => none
def m13 (a41 : Wm0T11) (a42 : Wm0T12) (a43c : Wm0T13) (N : Nat) (o0 : Wm0T3) (log1 : List UInt8) : Option (List UInt8 × Int) :=
   (a41 o0 ([log1] : List (List UInt8))).bind fun r1 =>
   cond (r1.2 != (0 : Int)) (some (([] : List UInt8), r1.2))
   ((a42 r1.1 log1).bind fun r2 =>
   (a43c r2.2.1 r2.2.2 r2.1).bind fun r3 =>
   some (r3.1, (0 : Int)))
theorem k13 (a41 : Wm0T11) (a42 : Wm0T12) (a43c : Wm0T13) (N : Nat) (o0 : Wm0T3) (log1 : List UInt8) : callF (E13 a41 a42 a43c) lv13 N en13 c13 (resOf Tryd.f13) 20 [.dv (.pair (.int .i64) (.pair (.sl (.arr 2 (.int .i64))) (.unit))) o0, .dv (.str) log1] [] dec13 = m13 a41 a42 a43c N o0 log1 := by kernel_rfl
theorem ok13 (a41 : Wm0T11) (a42 : Wm0T12) (a43c : Wm0T13) (h41 : FnOk Tryd.prog 41 (F41 a41)) (h42 : FnOk Tryd.prog 42 (F42 a42)) (h43c : FnOk Tryd.prog 43 (F43c a43c)) (a : (Int × List (List Int) × Unit) → (List UInt8) → Option (List UInt8 × Int)) (h : ∀ o0 log1 r, a o0 log1 = some r → (∃ N, m13 a41 a42 a43c N o0 log1 = some r)) : FnOk Tryd.prog 13 (F13 a) := by
 intro args Of x hx
 simp only [F13] at hx
 split at hx
 ·rename_i o0 log1
  obtain ⟨N, hN⟩ := h _ _ _ hx
  refine lifted (L := [(41, F41 a41), (42, F42 a42), (43, F43c a43c)]) (rc := nrc) (fz := nfz) (fn := Tryd.f13) (by kernel_rfl) (by kernel_rfl) (by kernel_rfl) (by kernel_rfl) rfl ?_ ((k13 a41 a42 a43c N _ _).trans hN) ?_
  ·intro p hp; simp only [List.mem_cons, List.not_mem_nil, or_false] at hp; rcases hp with rfl | rfl | rfl
   ·exact h41
   ·exact h42
   ·exact h43c
  ·intro l o hd
   simp only [dec13] at hd
   split at hd
   ·obtain rfl := Option.some.inj hd; exact ⟨rfl, rfl⟩
   ·cases hd
 ·cases hx
def E98 : Env := mkE TI TY [] nrc nfz
noncomputable def c98 : Code := bodyOf Tryd.f98
def lv98 : Nat → Option Norm := norms []
def en98 : End := ⟨[], ⟨[6], [], [], []⟩⟩
def dec98 (l : List TV) (o : List (Nat × TO)) : Option (Bool) := match l, o with | [.dv (.bool) x0], [] => some (x0) | _, _ => none
def m98 (N : Nat) (x0 : Int) : Option (Bool) :=
   some (x0 != x0)
theorem k98 (N : Nat) (x0 : Int) : callF (E98) lv98 N en98 c98 (resOf Tryd.f98) 5 [.dv (.int .u8) x0] [] dec98 = m98 N x0 := by kernel_rfl
theorem ok98 (a : Int → Option (Bool)) (h : ∀ x0 r, a x0 = some r → (∃ N, m98 N x0 = some r)) : FnOk Tryd.prog 98 (F98 a) := by
 intro args Of x hx
 simp only [F98] at hx
 split at hx
 ·rename_i x0
  obtain ⟨N, hN⟩ := h _ _ hx
  refine lifted (L := []) (rc := nrc) (fz := nfz) (fn := Tryd.f98) (by kernel_rfl) (by kernel_rfl) (by kernel_rfl) (by kernel_rfl) rfl ?_ ((k98 N _).trans hN) ?_
  ·intro p hp; cases hp
  ·intro l o hd
   simp only [dec98] at hd
   split at hd
   ·obtain rfl := Option.some.inj hd; exact ⟨rfl, rfl⟩
   ·cases hd
 ·cases hx
def E81 (a98 : Int → Option (Bool)) : Env := mkE TI TY [(98, F98 a98)] nrc nfz
noncomputable def c81 : Code := bodyOf Tryd.f81
def lv81 : Nat → Option Norm := norms []
def en81 : End := ⟨[], ⟨[17], [], [], []⟩⟩
def dec81 (l : List TV) (o : List (Nat × TO)) : Option (Bool) := match l, o with | [.dv (.bool) x0], [] => some (x0) | _, _ => none
def m81 (a98 : Int → Option (Bool)) (N : Nat) (x0 : Int) (y1 : Int) : Option (Bool) :=
   (a98 x0).bind fun r1 =>
   cond (r1) ((a98 y1).bind fun r2 =>
   cond (!r2) (some true)
   (some (decide (x0 < y1))))
   (some (decide (x0 < y1)))
theorem k81 (a98 : Int → Option (Bool)) (N : Nat) (x0 : Int) (y1 : Int) : callF (E81 a98) lv81 N en81 c81 (resOf Tryd.f81) 15 [.dv (.int .u8) x0, .dv (.int .u8) y1] [] dec81 = m81 a98 N x0 y1 := by kernel_rfl
theorem ok81 (a98 : Int → Option (Bool)) (h98 : FnOk Tryd.prog 98 (F98 a98)) (a : Int → Int → Option (Bool)) (h : ∀ x0 y1 r, a x0 y1 = some r → (∃ N, m81 a98 N x0 y1 = some r)) : FnOk Tryd.prog 81 (F81 a) := by
 intro args Of x hx
 simp only [F81] at hx
 split at hx
 ·rename_i x0 y1
  obtain ⟨N, hN⟩ := h _ _ _ hx
  refine lifted (L := [(98, F98 a98)]) (rc := nrc) (fz := nfz) (fn := Tryd.f81) (by kernel_rfl) (by kernel_rfl) (by kernel_rfl) (by kernel_rfl) rfl ?_ ((k81 a98 N _ _).trans hN) ?_
  ·intro p hp; simp only [List.mem_cons, List.not_mem_nil, or_false] at hp; rcases hp with rfl; exact h98
  ·intro l o hd
   simp only [dec81] at hd
   split at hd
   ·obtain rfl := Option.some.inj hd; exact ⟨rfl, rfl⟩
   ·cases hd
 ·cases hx
def E75c (a81 : Wm0T14) : Env := mkE TI TY [(81, F81 a81)] nrc nfz
noncomputable def c75c : Code := bodyOf Tryd.f75
def nm75c_0 : Norm := ⟨[0, 1, 2, 6], [9000], [], []⟩
def nm75c_1 : Norm := ⟨[0, 1, 2, 6, 7], [9000], [], []⟩
def lv75c : Nat → Option Norm := norms [(1, nm75c_0), (4, nm75c_1)]
def en75c : End := ⟨[], ⟨[], [9000], [], []⟩⟩
def dec75c (l : List TV) (o : List (Nat × TO)) : Option (List Int) := match l, o with | [], [(9000, .row (.int .u8) x0)] => some (x0) | _, _ => none
def Sl75cb (ax1 : Int) (b2 : Int) (i6_a : Int) (j7_b : Int) (o9000_b : List Int) : TS := ⟨slots 49 [(0, .row 9000), (1, .dv (.int .i64) ax1), (2, .dv (.int .i64) b2), (6, .dv (.int .i64) i6_a), (7, .dv (.int .i64) j7_b)], [(9000, .row (.int .u8) o9000_b)]⟩
def Sl75ca (ax1 : Int) (b2 : Int) (i6_a : Int) (o9000_a : List Int) : TS := ⟨slots 49 [(0, .row 9000), (1, .dv (.int .i64) ax1), (2, .dv (.int .i64) b2), (6, .dv (.int .i64) i6_a)], [(9000, .row (.int .u8) o9000_a)]⟩
noncomputable def K75c_0 (a81 : Wm0T14) (N : Nat) : Kont (List Int) := kont (E75c a81) lv75c N c75c [1, 0] (fin TI en75c (resOf Tryd.f75) dec75c)
noncomputable def R75c_0 (a81 : Wm0T14) (N : Nat) (m : Nat) : TS → Option (List Int) := loopK (den (E75c a81) lv75c N (sub c75c [1, 0, 0])) (TS.norm nm75c_0) (K75c_0 a81 N) m
noncomputable def K75c_1 (a81 : Wm0T14) (N : Nat) (T75c_0 : TS → Option (List Int)) : Kont (List Int) := kont (E75c a81) lv75c N (sub c75c [1, 0, 0]) [1, 0, 0, 1, 0] (kloop (TS.norm nm75c_0) (K75c_0 a81 N) T75c_0)
noncomputable def R75c_1 (a81 : Wm0T14) (N : Nat) (T75c_0 : TS → Option (List Int)) (m : Nat) : TS → Option (List Int) := loopK (den (E75c a81) lv75c N (sub c75c [1, 0, 0, 1, 0, 0, 1, 0, 0])) (TS.norm nm75c_1) (K75c_1 a81 N T75c_0) m
def l75cb (a81 : Wm0T14) (N : Nat) (ax1 : Int) (b2 : Int) (i6_a : Int) (rec_l75ca : Int → (List Int) → Option (List Int)) : Nat → Int → (List Int) → Option (List Int)
 | 0, _, _ => none
 | n + 1, j7_b, o9000_b => cond (decide (j7_b > ax1)) (chk (decide (0 ≤ j7_b ∧ j7_b < (o9000_b.length : Int))) (chk (decide (0 ≤ w64 (j7_b - (1 : Int)) ∧ w64 (j7_b - (1 : Int)) < (o9000_b.length : Int))) ((a81 (o9000_b.getD j7_b.toNat (0 : Int)) (o9000_b.getD ((w64 (j7_b - (1 : Int))).toNat) (0 : Int))).bind fun r1 =>
   cond (r1) (chk (decide (0 ≤ w64 (j7_b - (1 : Int)) ∧ w64 (j7_b - (1 : Int)) < (o9000_b.length : Int))) (chk (decide (0 ≤ j7_b ∧ j7_b < (o9000_b.length : Int))) (chk (decide (0 ≤ j7_b ∧ j7_b < (o9000_b.length : Int))) (chk (decide (0 ≤ w64 (j7_b - (1 : Int)) ∧ w64 (j7_b - (1 : Int)) < ((o9000_b.set j7_b.toNat (o9000_b.getD ((w64 (j7_b - (1 : Int))).toNat) (0 : Int))).length : Int))) ((l75cb a81 N ax1 b2 i6_a rec_l75ca n (w64 (j7_b - (1 : Int))) ((o9000_b.set j7_b.toNat (o9000_b.getD ((w64 (j7_b - (1 : Int))).toNat) (0 : Int))).set ((w64 (j7_b - (1 : Int))).toNat) (o9000_b.getD j7_b.toNat (0 : Int)))))))))
   ((rec_l75ca (w64 (i6_a + (1 : Int))) o9000_b)))))
   ((rec_l75ca (w64 (i6_a + (1 : Int))) o9000_b))
theorem wl75cb (a81 : Wm0T14) (N : Nat) (ax1 : Int) (b2 : Int) (i6_a : Int) (T75c_0 : TS → Option (List Int)) (m : Nat) (j7_b : Int) (o9000_b : List Int) : R75c_1 a81 N T75c_0 (m + 1) (Sl75cb ax1 b2 i6_a j7_b o9000_b) = cond (decide (j7_b > ax1)) (chk (decide (0 ≤ j7_b ∧ j7_b < (o9000_b.length : Int))) (chk (decide (0 ≤ w64 (j7_b - (1 : Int)) ∧ w64 (j7_b - (1 : Int)) < (o9000_b.length : Int))) ((a81 (o9000_b.getD j7_b.toNat (0 : Int)) (o9000_b.getD ((w64 (j7_b - (1 : Int))).toNat) (0 : Int))).bind fun r1 =>
   cond (r1) (chk (decide (0 ≤ w64 (j7_b - (1 : Int)) ∧ w64 (j7_b - (1 : Int)) < (o9000_b.length : Int))) (chk (decide (0 ≤ j7_b ∧ j7_b < (o9000_b.length : Int))) (chk (decide (0 ≤ j7_b ∧ j7_b < (o9000_b.length : Int))) (chk (decide (0 ≤ w64 (j7_b - (1 : Int)) ∧ w64 (j7_b - (1 : Int)) < ((o9000_b.set j7_b.toNat (o9000_b.getD ((w64 (j7_b - (1 : Int))).toNat) (0 : Int))).length : Int))) ((R75c_1 a81 N T75c_0 m (Sl75cb ax1 b2 i6_a (w64 (j7_b - (1 : Int))) ((o9000_b.set j7_b.toNat (o9000_b.getD ((w64 (j7_b - (1 : Int))).toNat) (0 : Int))).set ((w64 (j7_b - (1 : Int))).toNat) (o9000_b.getD j7_b.toNat (0 : Int))))))))))
   ((T75c_0 (Sl75ca ax1 b2 (w64 (i6_a + (1 : Int))) o9000_b))))))
   ((T75c_0 (Sl75ca ax1 b2 (w64 (i6_a + (1 : Int))) o9000_b))) := by kernel_rfl
theorem ql75cb (a81 : Wm0T14) (N : Nat) (ax1 : Int) (b2 : Int) (i6_a : Int) (T75c_0 : TS → Option (List Int)) : ∀ (m : Nat) (j7_b : Int) (o9000_b : List Int), R75c_1 a81 N T75c_0 m (Sl75cb ax1 b2 i6_a j7_b o9000_b) = l75cb a81 N ax1 b2 i6_a (fun y0 y1 => T75c_0 (Sl75ca ax1 b2 y0 y1)) m j7_b o9000_b
        | 0, _, _ => rfl
        | m + 1, j7_b, o9000_b => by rw [wl75cb]; simp only [l75cb, ql75cb a81 N ax1 b2 i6_a T75c_0 m]
def l75ca (a81 : Wm0T14) (N : Nat) (ax1 : Int) (b2 : Int) : Nat → Int → (List Int) → Option (List Int)
 | 0, _, _ => none
 | n + 1, i6_a, o9000_a => cond (decide (i6_a < b2)) ((l75cb a81 N ax1 b2 i6_a (fun y0 y1 => (l75ca a81 N ax1 b2 n y0 y1)) N i6_a o9000_a))
   (some o9000_a)
theorem wl75ca (a81 : Wm0T14) (N : Nat) (ax1 : Int) (b2 : Int) (m : Nat) (i6_a : Int) (o9000_a : List Int) : R75c_0 a81 N (m + 1) (Sl75ca ax1 b2 i6_a o9000_a) = cond (decide (i6_a < b2)) ((R75c_1 a81 N (R75c_0 a81 N m) N (Sl75cb ax1 b2 i6_a i6_a o9000_a)))
   (some o9000_a) := by kernel_rfl
theorem ql75ca (a81 : Wm0T14) (N : Nat) (ax1 : Int) (b2 : Int) : ∀ (m : Nat) (i6_a : Int) (o9000_a : List Int), R75c_0 a81 N m (Sl75ca ax1 b2 i6_a o9000_a) = l75ca a81 N ax1 b2 m i6_a o9000_a
        | 0, _, _ => rfl
        | m + 1, i6_a, o9000_a => by rw [wl75ca]; simp only [l75ca, ql75cb, ql75ca a81 N ax1 b2 m]
def m75c (a81 : Wm0T14) (N : Nat) (ax1 : Int) (b2 : Int) (p2 : List Int) : Option (List Int) :=
   (l75ca a81 N ax1 b2 N (w64 (ax1 + (1 : Int))) p2)
theorem wm75c (a81 : Wm0T14) (N : Nat) (ax1 : Int) (b2 : Int) (p2 : List Int) : callF (E75c a81) lv75c N en75c c75c (resOf Tryd.f75) 46 [.row 9000, .dv (.int .i64) ax1, .dv (.int .i64) b2] [(9000, .row (.int .u8) p2)] dec75c = (R75c_0 a81 N N (Sl75ca ax1 b2 (w64 (ax1 + (1 : Int))) p2)) := by kernel_rfl
theorem k75c (a81 : Wm0T14) (N : Nat) (ax1 : Int) (b2 : Int) (p2 : List Int) : callF (E75c a81) lv75c N en75c c75c (resOf Tryd.f75) 46 [.row 9000, .dv (.int .i64) ax1, .dv (.int .i64) b2] [(9000, .row (.int .u8) p2)] dec75c = m75c a81 N ax1 b2 p2 := by rw [wm75c]; simp only [m75c, ql75ca]
theorem ok75c (a81 : Wm0T14) (h81 : FnOk Tryd.prog 81 (F81 a81)) (a : Int → Int → (List Int) → Option (List Int)) (h : ∀ ax1 b2 p2 r, a ax1 b2 p2 = some r → (∃ N, m75c a81 N ax1 b2 p2 = some r)) : FnOk Tryd.prog 75 (F75c a) := by
 intro args Of x hx
 simp only [F75c] at hx
 split at hx
 ·rename_i ax1 b2 p2
  obtain ⟨N, hN⟩ := h _ _ _ _ hx
  refine lifted (L := [(81, F81 a81)]) (rc := nrc) (fz := nfz) (fn := Tryd.f75) (by kernel_rfl) (by kernel_rfl) (by kernel_rfl) (by kernel_rfl) rfl ?_ ((k75c a81 N _ _ _).trans hN) ?_
  ·intro p hp; simp only [List.mem_cons, List.not_mem_nil, or_false] at hp; rcases hp with rfl; exact h81
  ·intro l o hd
   simp only [dec75c] at hd
   split at hd
   ·obtain rfl := Option.some.inj hd; exact ⟨rfl, rfl⟩
   ·cases hd
 ·cases hx
def E65c (a75c : Wm0T15) : Env := mkE TI TY [(75, F75c a75c)] nrc nfz
noncomputable def c65c : Code := bodyOf Tryd.f65
def nm65c_0 : Norm := ⟨[0, 1, 2, 3, 8, 9], [9000], [], []⟩
def lv65c : Nat → Option Norm := norms [(2, nm65c_0)]
def en65c : End := ⟨[], ⟨[], [9000], [], []⟩⟩
def dec65c (l : List TV) (o : List (Nat × TO)) : Option (List Int) := match l, o with | [], [(9000, .row (.int .u8) x0)] => some (x0) | _, _ => none
def Sl65ca (p3 : List Int) (a1_a : Int) (b2_a : Int) (limit3_a : Int) (wasBalanced8_a : Bool) (wasPartitioned9_a : Bool) : TS := ⟨slots 134 [(0, .row 9000), (1, .dv (.int .i64) a1_a), (2, .dv (.int .i64) b2_a), (3, .dv (.int .i64) limit3_a), (8, .dv (.bool) wasBalanced8_a), (9, .dv (.bool) wasPartitioned9_a)], [(9000, .row (.int .u8) p3)]⟩
noncomputable def K65c_0 (a75c : Wm0T15) (N : Nat) : Kont (List Int) := kont (E65c a75c) lv65c N c65c [1, 1, 0] (fin TI en65c (resOf Tryd.f65) dec65c)
noncomputable def R65c_0 (a75c : Wm0T15) (N : Nat) (m : Nat) : TS → Option (List Int) := loopK (den (E65c a75c) lv65c N (sub c65c [1, 1, 0, 0])) (TS.norm nm65c_0) (K65c_0 a75c N) m
def l65ca (a75c : Wm0T15) (N : Nat) (p3 : List Int) : Nat → Int → Int → Int → Bool → Bool → Option (List Int)
 | 0, _, _, _, _, _ => none
 | n + 1, a1_a, b2_a, limit3_a, wasBalanced8_a, wasPartitioned9_a => cond (decide ((w64 (b2_a - a1_a)) ≤ (12 : Int))) ((a75c a1_a b2_a p3).bind fun r1 =>
   some r1)
   (cond (limit3_a == (0 : Int)) (none)
   (cond (!wasBalanced8_a) (none)
   (none)))
theorem wl65ca (a75c : Wm0T15) (N : Nat) (p3 : List Int) (m : Nat) (a1_a : Int) (b2_a : Int) (limit3_a : Int) (wasBalanced8_a : Bool) (wasPartitioned9_a : Bool) : R65c_0 a75c N (m + 1) (Sl65ca p3 a1_a b2_a limit3_a wasBalanced8_a wasPartitioned9_a) = cond (decide ((w64 (b2_a - a1_a)) ≤ (12 : Int))) ((a75c a1_a b2_a p3).bind fun r1 =>
   some r1)
   (cond (limit3_a == (0 : Int)) (none)
   (cond (!wasBalanced8_a) (none)
   (none))) := by kernel_rfl
theorem ql65ca (a75c : Wm0T15) (N : Nat) (p3 : List Int) : ∀ (m : Nat) (a1_a : Int) (b2_a : Int) (limit3_a : Int) (wasBalanced8_a : Bool) (wasPartitioned9_a : Bool), R65c_0 a75c N m (Sl65ca p3 a1_a b2_a limit3_a wasBalanced8_a wasPartitioned9_a) = l65ca a75c N p3 m a1_a b2_a limit3_a wasBalanced8_a wasPartitioned9_a
        | 0, _, _, _, _, _ => rfl
        | m + 1, a1_a, b2_a, limit3_a, wasBalanced8_a, wasPartitioned9_a => by rw [wl65ca]; simp only [l65ca]
def m65c (a75c : Wm0T15) (N : Nat) (ax1 : Int) (b2 : Int) (limit3 : Int) (p3 : List Int) : Option (List Int) :=
   (l65ca a75c N p3 N ax1 b2 limit3 true true)
theorem wm65c (a75c : Wm0T15) (N : Nat) (ax1 : Int) (b2 : Int) (limit3 : Int) (p3 : List Int) : callF (E65c a75c) lv65c N en65c c65c (resOf Tryd.f65) 130 [.row 9000, .dv (.int .i64) ax1, .dv (.int .i64) b2, .dv (.int .i64) limit3] [(9000, .row (.int .u8) p3)] dec65c = (R65c_0 a75c N N (Sl65ca p3 ax1 b2 limit3 true true)) := by kernel_rfl
theorem k65c (a75c : Wm0T15) (N : Nat) (ax1 : Int) (b2 : Int) (limit3 : Int) (p3 : List Int) : callF (E65c a75c) lv65c N en65c c65c (resOf Tryd.f65) 130 [.row 9000, .dv (.int .i64) ax1, .dv (.int .i64) b2, .dv (.int .i64) limit3] [(9000, .row (.int .u8) p3)] dec65c = m65c a75c N ax1 b2 limit3 p3 := by rw [wm65c]; simp only [m65c, ql65ca]
theorem ok65c (a75c : Wm0T15) (h75c : FnOk Tryd.prog 75 (F75c a75c)) (a : Int → Int → Int → (List Int) → Option (List Int)) (h : ∀ ax1 b2 limit3 p3 r, a ax1 b2 limit3 p3 = some r → (∃ N, m65c a75c N ax1 b2 limit3 p3 = some r)) : FnOk Tryd.prog 65 (F65c a) := by
 intro args Of x hx
 simp only [F65c] at hx
 split at hx
 ·rename_i ax1 b2 limit3 p3
  obtain ⟨N, hN⟩ := h _ _ _ _ _ hx
  refine lifted (L := [(75, F75c a75c)]) (rc := nrc) (fz := nfz) (fn := Tryd.f65) (by kernel_rfl) (by kernel_rfl) (by kernel_rfl) (by kernel_rfl) rfl ?_ ((k65c a75c N _ _ _ _).trans hN) ?_
  ·intro p hp; simp only [List.mem_cons, List.not_mem_nil, or_false] at hp; rcases hp with rfl; exact h75c
  ·intro l o hd
   simp only [dec65c] at hd
   split at hd
   ·obtain rfl := Option.some.inj hd; exact ⟨rfl, rfl⟩
   ·cases hd
 ·cases hx
def E85 : Env := mkE TI TY [] nrc nfz
noncomputable def c85 : Code := bodyOf Tryd.f85
def lv85 : Nat → Option Norm := norms []
def en85 : End := ⟨[], ⟨[25], [], [], []⟩⟩
def dec85 (l : List TV) (o : List (Nat × TO)) : Option (Int) := match l, o with | [.dv (.int .i64) x0], [] => some (x0) | _, _ => none
def m85 (N : Nat) (x0 : Int) : Option (Int) :=
   cond (decide (x0 ≥ (4294967296 : Int))) (cond (decide ((Int.fdiv x0 (2 ^ min (Int.toNat (32 : Int)) 64)) ≥ (65536 : Int))) (cond (decide ((Int.fdiv (Int.fdiv x0 (2 ^ min (Int.toNat (32 : Int)) 64)) (2 ^ min (Int.toNat (16 : Int)) 64)) ≥ (256 : Int))) (chk (decide (0 ≤ IntKind.wrap .u8 (Int.fdiv (Int.fdiv (Int.fdiv x0 (2 ^ min (Int.toNat (32 : Int)) 64)) (2 ^ min (Int.toNat (16 : Int)) 64)) (2 ^ min (Int.toNat (8 : Int)) 64)) ∧ IntKind.wrap .u8 (Int.fdiv (Int.fdiv (Int.fdiv x0 (2 ^ min (Int.toNat (32 : Int)) 64)) (2 ^ min (Int.toNat (16 : Int)) 64)) (2 ^ min (Int.toNat (8 : Int)) 64)) < (256 : Int))) (some (w64 ((56 : Int) + (w64 ((((([0, 1, 2, 2, 3, 3, 3, 3, 4, 4, 4, 4, 4, 4, 4, 4, 5, 5, 5, 5, 5, 5, 5, 5, 5, 5, 5, 5, 5, 5, 5, 5, 6, 6, 6, 6, 6, 6, 6, 6, 6, 6, 6, 6, 6, 6, 6, 6, 6, 6, 6, 6, 6, 6, 6, 6, 6, 6, 6, 6, 6, 6, 6, 6, 7, 7, 7, 7, 7, 7, 7, 7, 7, 7, 7, 7, 7, 7, 7, 7, 7, 7, 7, 7, 7, 7, 7, 7, 7, 7, 7, 7, 7, 7, 7, 7, 7, 7, 7, 7, 7, 7, 7, 7, 7, 7, 7, 7, 7, 7, 7, 7, 7, 7, 7, 7, 7, 7, 7, 7, 7, 7, 7, 7, 7, 7, 7, 7, 8, 8, 8, 8, 8, 8, 8, 8, 8, 8, 8, 8, 8, 8, 8, 8, 8, 8, 8, 8, 8, 8, 8, 8, 8, 8, 8, 8, 8, 8, 8, 8, 8, 8, 8, 8, 8, 8, 8, 8, 8, 8, 8, 8, 8, 8, 8, 8, 8, 8, 8, 8, 8, 8, 8, 8, 8, 8, 8, 8, 8, 8, 8, 8, 8, 8, 8, 8, 8, 8, 8, 8, 8, 8, 8, 8, 8, 8, 8, 8, 8, 8, 8, 8, 8, 8, 8, 8, 8, 8, 8, 8, 8, 8, 8, 8, 8, 8, 8, 8, 8, 8, 8, 8, 8, 8, 8, 8, 8, 8, 8, 8, 8, 8, 8, 8, 8, 8, 8, 8, 8, 8, 8, 8, 8, 8, 8, 8] : List UInt8).getD ((IntKind.wrap .u8 (Int.fdiv (Int.fdiv (Int.fdiv x0 (2 ^ min (Int.toNat (32 : Int)) 64)) (2 ^ min (Int.toNat (16 : Int)) 64)) (2 ^ min (Int.toNat (8 : Int)) 64))).toNat) 0).toNat : Nat) : Int)))))))
   (chk (decide (0 ≤ IntKind.wrap .u8 (Int.fdiv (Int.fdiv x0 (2 ^ min (Int.toNat (32 : Int)) 64)) (2 ^ min (Int.toNat (16 : Int)) 64)) ∧ IntKind.wrap .u8 (Int.fdiv (Int.fdiv x0 (2 ^ min (Int.toNat (32 : Int)) 64)) (2 ^ min (Int.toNat (16 : Int)) 64)) < (256 : Int))) (some (w64 ((48 : Int) + (w64 ((((([0, 1, 2, 2, 3, 3, 3, 3, 4, 4, 4, 4, 4, 4, 4, 4, 5, 5, 5, 5, 5, 5, 5, 5, 5, 5, 5, 5, 5, 5, 5, 5, 6, 6, 6, 6, 6, 6, 6, 6, 6, 6, 6, 6, 6, 6, 6, 6, 6, 6, 6, 6, 6, 6, 6, 6, 6, 6, 6, 6, 6, 6, 6, 6, 7, 7, 7, 7, 7, 7, 7, 7, 7, 7, 7, 7, 7, 7, 7, 7, 7, 7, 7, 7, 7, 7, 7, 7, 7, 7, 7, 7, 7, 7, 7, 7, 7, 7, 7, 7, 7, 7, 7, 7, 7, 7, 7, 7, 7, 7, 7, 7, 7, 7, 7, 7, 7, 7, 7, 7, 7, 7, 7, 7, 7, 7, 7, 7, 8, 8, 8, 8, 8, 8, 8, 8, 8, 8, 8, 8, 8, 8, 8, 8, 8, 8, 8, 8, 8, 8, 8, 8, 8, 8, 8, 8, 8, 8, 8, 8, 8, 8, 8, 8, 8, 8, 8, 8, 8, 8, 8, 8, 8, 8, 8, 8, 8, 8, 8, 8, 8, 8, 8, 8, 8, 8, 8, 8, 8, 8, 8, 8, 8, 8, 8, 8, 8, 8, 8, 8, 8, 8, 8, 8, 8, 8, 8, 8, 8, 8, 8, 8, 8, 8, 8, 8, 8, 8, 8, 8, 8, 8, 8, 8, 8, 8, 8, 8, 8, 8, 8, 8, 8, 8, 8, 8, 8, 8, 8, 8, 8, 8, 8, 8, 8, 8, 8, 8, 8, 8, 8, 8, 8, 8, 8, 8] : List UInt8).getD ((IntKind.wrap .u8 (Int.fdiv (Int.fdiv x0 (2 ^ min (Int.toNat (32 : Int)) 64)) (2 ^ min (Int.toNat (16 : Int)) 64))).toNat) 0).toNat : Nat) : Int))))))))
   (cond (decide ((Int.fdiv x0 (2 ^ min (Int.toNat (32 : Int)) 64)) ≥ (256 : Int))) (chk (decide (0 ≤ IntKind.wrap .u8 (Int.fdiv (Int.fdiv x0 (2 ^ min (Int.toNat (32 : Int)) 64)) (2 ^ min (Int.toNat (8 : Int)) 64)) ∧ IntKind.wrap .u8 (Int.fdiv (Int.fdiv x0 (2 ^ min (Int.toNat (32 : Int)) 64)) (2 ^ min (Int.toNat (8 : Int)) 64)) < (256 : Int))) (some (w64 ((40 : Int) + (w64 ((((([0, 1, 2, 2, 3, 3, 3, 3, 4, 4, 4, 4, 4, 4, 4, 4, 5, 5, 5, 5, 5, 5, 5, 5, 5, 5, 5, 5, 5, 5, 5, 5, 6, 6, 6, 6, 6, 6, 6, 6, 6, 6, 6, 6, 6, 6, 6, 6, 6, 6, 6, 6, 6, 6, 6, 6, 6, 6, 6, 6, 6, 6, 6, 6, 7, 7, 7, 7, 7, 7, 7, 7, 7, 7, 7, 7, 7, 7, 7, 7, 7, 7, 7, 7, 7, 7, 7, 7, 7, 7, 7, 7, 7, 7, 7, 7, 7, 7, 7, 7, 7, 7, 7, 7, 7, 7, 7, 7, 7, 7, 7, 7, 7, 7, 7, 7, 7, 7, 7, 7, 7, 7, 7, 7, 7, 7, 7, 7, 8, 8, 8, 8, 8, 8, 8, 8, 8, 8, 8, 8, 8, 8, 8, 8, 8, 8, 8, 8, 8, 8, 8, 8, 8, 8, 8, 8, 8, 8, 8, 8, 8, 8, 8, 8, 8, 8, 8, 8, 8, 8, 8, 8, 8, 8, 8, 8, 8, 8, 8, 8, 8, 8, 8, 8, 8, 8, 8, 8, 8, 8, 8, 8, 8, 8, 8, 8, 8, 8, 8, 8, 8, 8, 8, 8, 8, 8, 8, 8, 8, 8, 8, 8, 8, 8, 8, 8, 8, 8, 8, 8, 8, 8, 8, 8, 8, 8, 8, 8, 8, 8, 8, 8, 8, 8, 8, 8, 8, 8, 8, 8, 8, 8, 8, 8, 8, 8, 8, 8, 8, 8, 8, 8, 8, 8, 8, 8] : List UInt8).getD ((IntKind.wrap .u8 (Int.fdiv (Int.fdiv x0 (2 ^ min (Int.toNat (32 : Int)) 64)) (2 ^ min (Int.toNat (8 : Int)) 64))).toNat) 0).toNat : Nat) : Int)))))))
   (chk (decide (0 ≤ IntKind.wrap .u8 (Int.fdiv x0 (2 ^ min (Int.toNat (32 : Int)) 64)) ∧ IntKind.wrap .u8 (Int.fdiv x0 (2 ^ min (Int.toNat (32 : Int)) 64)) < (256 : Int))) (some (w64 ((32 : Int) + (w64 ((((([0, 1, 2, 2, 3, 3, 3, 3, 4, 4, 4, 4, 4, 4, 4, 4, 5, 5, 5, 5, 5, 5, 5, 5, 5, 5, 5, 5, 5, 5, 5, 5, 6, 6, 6, 6, 6, 6, 6, 6, 6, 6, 6, 6, 6, 6, 6, 6, 6, 6, 6, 6, 6, 6, 6, 6, 6, 6, 6, 6, 6, 6, 6, 6, 7, 7, 7, 7, 7, 7, 7, 7, 7, 7, 7, 7, 7, 7, 7, 7, 7, 7, 7, 7, 7, 7, 7, 7, 7, 7, 7, 7, 7, 7, 7, 7, 7, 7, 7, 7, 7, 7, 7, 7, 7, 7, 7, 7, 7, 7, 7, 7, 7, 7, 7, 7, 7, 7, 7, 7, 7, 7, 7, 7, 7, 7, 7, 7, 8, 8, 8, 8, 8, 8, 8, 8, 8, 8, 8, 8, 8, 8, 8, 8, 8, 8, 8, 8, 8, 8, 8, 8, 8, 8, 8, 8, 8, 8, 8, 8, 8, 8, 8, 8, 8, 8, 8, 8, 8, 8, 8, 8, 8, 8, 8, 8, 8, 8, 8, 8, 8, 8, 8, 8, 8, 8, 8, 8, 8, 8, 8, 8, 8, 8, 8, 8, 8, 8, 8, 8, 8, 8, 8, 8, 8, 8, 8, 8, 8, 8, 8, 8, 8, 8, 8, 8, 8, 8, 8, 8, 8, 8, 8, 8, 8, 8, 8, 8, 8, 8, 8, 8, 8, 8, 8, 8, 8, 8, 8, 8, 8, 8, 8, 8, 8, 8, 8, 8, 8, 8, 8, 8, 8, 8, 8, 8] : List UInt8).getD ((IntKind.wrap .u8 (Int.fdiv x0 (2 ^ min (Int.toNat (32 : Int)) 64))).toNat) 0).toNat : Nat) : Int)))))))))
   (cond (decide (x0 ≥ (65536 : Int))) (cond (decide ((Int.fdiv x0 (2 ^ min (Int.toNat (16 : Int)) 64)) ≥ (256 : Int))) (chk (decide (0 ≤ IntKind.wrap .u8 (Int.fdiv (Int.fdiv x0 (2 ^ min (Int.toNat (16 : Int)) 64)) (2 ^ min (Int.toNat (8 : Int)) 64)) ∧ IntKind.wrap .u8 (Int.fdiv (Int.fdiv x0 (2 ^ min (Int.toNat (16 : Int)) 64)) (2 ^ min (Int.toNat (8 : Int)) 64)) < (256 : Int))) (some (w64 ((24 : Int) + (w64 ((((([0, 1, 2, 2, 3, 3, 3, 3, 4, 4, 4, 4, 4, 4, 4, 4, 5, 5, 5, 5, 5, 5, 5, 5, 5, 5, 5, 5, 5, 5, 5, 5, 6, 6, 6, 6, 6, 6, 6, 6, 6, 6, 6, 6, 6, 6, 6, 6, 6, 6, 6, 6, 6, 6, 6, 6, 6, 6, 6, 6, 6, 6, 6, 6, 7, 7, 7, 7, 7, 7, 7, 7, 7, 7, 7, 7, 7, 7, 7, 7, 7, 7, 7, 7, 7, 7, 7, 7, 7, 7, 7, 7, 7, 7, 7, 7, 7, 7, 7, 7, 7, 7, 7, 7, 7, 7, 7, 7, 7, 7, 7, 7, 7, 7, 7, 7, 7, 7, 7, 7, 7, 7, 7, 7, 7, 7, 7, 7, 8, 8, 8, 8, 8, 8, 8, 8, 8, 8, 8, 8, 8, 8, 8, 8, 8, 8, 8, 8, 8, 8, 8, 8, 8, 8, 8, 8, 8, 8, 8, 8, 8, 8, 8, 8, 8, 8, 8, 8, 8, 8, 8, 8, 8, 8, 8, 8, 8, 8, 8, 8, 8, 8, 8, 8, 8, 8, 8, 8, 8, 8, 8, 8, 8, 8, 8, 8, 8, 8, 8, 8, 8, 8, 8, 8, 8, 8, 8, 8, 8, 8, 8, 8, 8, 8, 8, 8, 8, 8, 8, 8, 8, 8, 8, 8, 8, 8, 8, 8, 8, 8, 8, 8, 8, 8, 8, 8, 8, 8, 8, 8, 8, 8, 8, 8, 8, 8, 8, 8, 8, 8, 8, 8, 8, 8, 8, 8] : List UInt8).getD ((IntKind.wrap .u8 (Int.fdiv (Int.fdiv x0 (2 ^ min (Int.toNat (16 : Int)) 64)) (2 ^ min (Int.toNat (8 : Int)) 64))).toNat) 0).toNat : Nat) : Int)))))))
   (chk (decide (0 ≤ IntKind.wrap .u8 (Int.fdiv x0 (2 ^ min (Int.toNat (16 : Int)) 64)) ∧ IntKind.wrap .u8 (Int.fdiv x0 (2 ^ min (Int.toNat (16 : Int)) 64)) < (256 : Int))) (some (w64 ((16 : Int) + (w64 ((((([0, 1, 2, 2, 3, 3, 3, 3, 4, 4, 4, 4, 4, 4, 4, 4, 5, 5, 5, 5, 5, 5, 5, 5, 5, 5, 5, 5, 5, 5, 5, 5, 6, 6, 6, 6, 6, 6, 6, 6, 6, 6, 6, 6, 6, 6, 6, 6, 6, 6, 6, 6, 6, 6, 6, 6, 6, 6, 6, 6, 6, 6, 6, 6, 7, 7, 7, 7, 7, 7, 7, 7, 7, 7, 7, 7, 7, 7, 7, 7, 7, 7, 7, 7, 7, 7, 7, 7, 7, 7, 7, 7, 7, 7, 7, 7, 7, 7, 7, 7, 7, 7, 7, 7, 7, 7, 7, 7, 7, 7, 7, 7, 7, 7, 7, 7, 7, 7, 7, 7, 7, 7, 7, 7, 7, 7, 7, 7, 8, 8, 8, 8, 8, 8, 8, 8, 8, 8, 8, 8, 8, 8, 8, 8, 8, 8, 8, 8, 8, 8, 8, 8, 8, 8, 8, 8, 8, 8, 8, 8, 8, 8, 8, 8, 8, 8, 8, 8, 8, 8, 8, 8, 8, 8, 8, 8, 8, 8, 8, 8, 8, 8, 8, 8, 8, 8, 8, 8, 8, 8, 8, 8, 8, 8, 8, 8, 8, 8, 8, 8, 8, 8, 8, 8, 8, 8, 8, 8, 8, 8, 8, 8, 8, 8, 8, 8, 8, 8, 8, 8, 8, 8, 8, 8, 8, 8, 8, 8, 8, 8, 8, 8, 8, 8, 8, 8, 8, 8, 8, 8, 8, 8, 8, 8, 8, 8, 8, 8, 8, 8, 8, 8, 8, 8, 8, 8] : List UInt8).getD ((IntKind.wrap .u8 (Int.fdiv x0 (2 ^ min (Int.toNat (16 : Int)) 64))).toNat) 0).toNat : Nat) : Int))))))))
   (cond (decide (x0 ≥ (256 : Int))) (chk (decide (0 ≤ IntKind.wrap .u8 (Int.fdiv x0 (2 ^ min (Int.toNat (8 : Int)) 64)) ∧ IntKind.wrap .u8 (Int.fdiv x0 (2 ^ min (Int.toNat (8 : Int)) 64)) < (256 : Int))) (some (w64 ((8 : Int) + (w64 ((((([0, 1, 2, 2, 3, 3, 3, 3, 4, 4, 4, 4, 4, 4, 4, 4, 5, 5, 5, 5, 5, 5, 5, 5, 5, 5, 5, 5, 5, 5, 5, 5, 6, 6, 6, 6, 6, 6, 6, 6, 6, 6, 6, 6, 6, 6, 6, 6, 6, 6, 6, 6, 6, 6, 6, 6, 6, 6, 6, 6, 6, 6, 6, 6, 7, 7, 7, 7, 7, 7, 7, 7, 7, 7, 7, 7, 7, 7, 7, 7, 7, 7, 7, 7, 7, 7, 7, 7, 7, 7, 7, 7, 7, 7, 7, 7, 7, 7, 7, 7, 7, 7, 7, 7, 7, 7, 7, 7, 7, 7, 7, 7, 7, 7, 7, 7, 7, 7, 7, 7, 7, 7, 7, 7, 7, 7, 7, 7, 8, 8, 8, 8, 8, 8, 8, 8, 8, 8, 8, 8, 8, 8, 8, 8, 8, 8, 8, 8, 8, 8, 8, 8, 8, 8, 8, 8, 8, 8, 8, 8, 8, 8, 8, 8, 8, 8, 8, 8, 8, 8, 8, 8, 8, 8, 8, 8, 8, 8, 8, 8, 8, 8, 8, 8, 8, 8, 8, 8, 8, 8, 8, 8, 8, 8, 8, 8, 8, 8, 8, 8, 8, 8, 8, 8, 8, 8, 8, 8, 8, 8, 8, 8, 8, 8, 8, 8, 8, 8, 8, 8, 8, 8, 8, 8, 8, 8, 8, 8, 8, 8, 8, 8, 8, 8, 8, 8, 8, 8, 8, 8, 8, 8, 8, 8, 8, 8, 8, 8, 8, 8, 8, 8, 8, 8, 8, 8] : List UInt8).getD ((IntKind.wrap .u8 (Int.fdiv x0 (2 ^ min (Int.toNat (8 : Int)) 64))).toNat) 0).toNat : Nat) : Int)))))))
   (chk (decide (0 ≤ IntKind.wrap .u8 (x0) ∧ IntKind.wrap .u8 (x0) < (256 : Int))) (some (w64 ((0 : Int) + (w64 ((((([0, 1, 2, 2, 3, 3, 3, 3, 4, 4, 4, 4, 4, 4, 4, 4, 5, 5, 5, 5, 5, 5, 5, 5, 5, 5, 5, 5, 5, 5, 5, 5, 6, 6, 6, 6, 6, 6, 6, 6, 6, 6, 6, 6, 6, 6, 6, 6, 6, 6, 6, 6, 6, 6, 6, 6, 6, 6, 6, 6, 6, 6, 6, 6, 7, 7, 7, 7, 7, 7, 7, 7, 7, 7, 7, 7, 7, 7, 7, 7, 7, 7, 7, 7, 7, 7, 7, 7, 7, 7, 7, 7, 7, 7, 7, 7, 7, 7, 7, 7, 7, 7, 7, 7, 7, 7, 7, 7, 7, 7, 7, 7, 7, 7, 7, 7, 7, 7, 7, 7, 7, 7, 7, 7, 7, 7, 7, 7, 8, 8, 8, 8, 8, 8, 8, 8, 8, 8, 8, 8, 8, 8, 8, 8, 8, 8, 8, 8, 8, 8, 8, 8, 8, 8, 8, 8, 8, 8, 8, 8, 8, 8, 8, 8, 8, 8, 8, 8, 8, 8, 8, 8, 8, 8, 8, 8, 8, 8, 8, 8, 8, 8, 8, 8, 8, 8, 8, 8, 8, 8, 8, 8, 8, 8, 8, 8, 8, 8, 8, 8, 8, 8, 8, 8, 8, 8, 8, 8, 8, 8, 8, 8, 8, 8, 8, 8, 8, 8, 8, 8, 8, 8, 8, 8, 8, 8, 8, 8, 8, 8, 8, 8, 8, 8, 8, 8, 8, 8, 8, 8, 8, 8, 8, 8, 8, 8, 8, 8, 8, 8, 8, 8, 8, 8, 8, 8] : List UInt8).getD ((IntKind.wrap .u8 (x0)).toNat) 0).toNat : Nat) : Int)))))))))
theorem k85 (N : Nat) (x0 : Int) : callF (E85) lv85 N en85 c85 (resOf Tryd.f85) 24 [.dv (.int .u64) x0] [] dec85 = m85 N x0 := by kernel_rfl
theorem ok85 (a : Int → Option (Int)) (h : ∀ x0 r, a x0 = some r → (∃ N, m85 N x0 = some r)) : FnOk Tryd.prog 85 (F85 a) := by
 intro args Of x hx
 simp only [F85] at hx
 split at hx
 ·rename_i x0
  obtain ⟨N, hN⟩ := h _ _ hx
  refine lifted (L := []) (rc := nrc) (fz := nfz) (fn := Tryd.f85) (by kernel_rfl) (by kernel_rfl) (by kernel_rfl) (by kernel_rfl) rfl ?_ ((k85 N _).trans hN) ?_
  ·intro p hp; cases hp
  ·intro l o hd
   simp only [dec85] at hd
   split at hd
   ·obtain rfl := Option.some.inj hd; exact ⟨rfl, rfl⟩
   ·cases hd
 ·cases hx
def E66 (a85 : Wm0T16) : Env := mkE TI TY [(85, F85 a85)] nrc nfz
noncomputable def c66 : Code := bodyOf Tryd.f66
def lv66 : Nat → Option Norm := norms []
def en66 : End := ⟨[], ⟨[8], [], [], []⟩⟩
def dec66 (l : List TV) (o : List (Nat × TO)) : Option (Int) := match l, o with | [.dv (.int .i64) x0], [] => some (x0) | _, _ => none
def m66 (a85 : Wm0T16) (N : Nat) (x0 : Int) : Option (Int) :=
   (a85 x0).bind fun r1 =>
   some r1
theorem k66 (a85 : Wm0T16) (N : Nat) (x0 : Int) : callF (E66 a85) lv66 N en66 c66 (resOf Tryd.f66) 7 [.dv (.int .u64) x0] [] dec66 = m66 a85 N x0 := by kernel_rfl
theorem ok66 (a85 : Wm0T16) (h85 : FnOk Tryd.prog 85 (F85 a85)) (a : Int → Option (Int)) (h : ∀ x0 r, a x0 = some r → (∃ N, m66 a85 N x0 = some r)) : FnOk Tryd.prog 66 (F66 a) := by
 intro args Of x hx
 simp only [F66] at hx
 split at hx
 ·rename_i x0
  obtain ⟨N, hN⟩ := h _ _ hx
  refine lifted (L := [(85, F85 a85)]) (rc := nrc) (fz := nfz) (fn := Tryd.f66) (by kernel_rfl) (by kernel_rfl) (by kernel_rfl) (by kernel_rfl) rfl ?_ ((k66 a85 N _).trans hN) ?_
  ·intro p hp; simp only [List.mem_cons, List.not_mem_nil, or_false] at hp; rcases hp with rfl; exact h85
  ·intro l o hd
   simp only [dec66] at hd
   split at hd
   ·obtain rfl := Option.some.inj hd; exact ⟨rfl, rfl⟩
   ·cases hd
 ·cases hx
def E47c (a65c : Wm0T17) (a66 : Wm0T16) : Env := mkE TI TY [(65, F65c a65c), (66, F66 a66)] nrc nfz
noncomputable def c47c : Code := bodyOf Tryd.f47
def lv47c : Nat → Option Norm := norms []
def en47c : End := ⟨[], ⟨[], [9000], [], []⟩⟩
def dec47c (l : List TV) (o : List (Nat × TO)) : Option (List Int) := match l, o with | [], [(9000, .row (.int .u8) x0)] => some (x0) | _, _ => none
def m47c (a65c : Wm0T17) (a66 : Wm0T16) (N : Nat) (p0 : List Int) : Option (List Int) :=
   (a66 (IntKind.wrap .u64 ((p0.length : Int)))).bind fun r1 =>
   (a65c (0 : Int) (p0.length : Int) r1 p0).bind fun r2 =>
   some r2
theorem k47c (a65c : Wm0T17) (a66 : Wm0T16) (N : Nat) (p0 : List Int) : callF (E47c a65c a66) lv47c N en47c c47c (resOf Tryd.f47) 10 [.row 9000] [(9000, .row (.int .u8) p0)] dec47c = m47c a65c a66 N p0 := by kernel_rfl
theorem ok47c (a65c : Wm0T17) (a66 : Wm0T16) (h65c : FnOk Tryd.prog 65 (F65c a65c)) (h66 : FnOk Tryd.prog 66 (F66 a66)) (a : (List Int) → Option (List Int)) (h : ∀ p0 r, a p0 = some r → (∃ N, m47c a65c a66 N p0 = some r)) : FnOk Tryd.prog 47 (F47c a) := by
 intro args Of x hx
 simp only [F47c] at hx
 split at hx
 ·rename_i p0
  obtain ⟨N, hN⟩ := h _ _ hx
  refine lifted (L := [(65, F65c a65c), (66, F66 a66)]) (rc := nrc) (fz := nfz) (fn := Tryd.f47) (by kernel_rfl) (by kernel_rfl) (by kernel_rfl) (by kernel_rfl) rfl ?_ ((k47c a65c a66 N _).trans hN) ?_
  ·intro p hp; simp only [List.mem_cons, List.not_mem_nil, or_false] at hp; rcases hp with rfl | rfl
   ·exact h65c
   ·exact h66
  ·intro l o hd
   simp only [dec47c] at hd
   split at hd
   ·obtain rfl := Option.some.inj hd; exact ⟨rfl, rfl⟩
   ·cases hd
 ·cases hx
def E15 (a41 : Wm0T11) (a42 : Wm0T12) (a46c : Wm0T10) (a47c : Wm0T18) : Env := mkE TI TY [(41, F41 a41), (42, F42 a42), (46, F46c a46c), (47, F47c a47c)] nrc nfz
noncomputable def c15 : Code := bodyOf Tryd.f15
def nm15_0 : Norm := ⟨[1, 9], [1270010, 1270008], [(.slot 8, 1008, .str)], []⟩
def nm15_1 : Norm := ⟨[1, 8, 9, 35, 36], [1008, 1270010, 1270008], [(.slot 10, 1010, .int .u8), (.slot 11, 1011, .int .i64)], []⟩
def nm15_2 : Norm := ⟨[1, 8, 9, 10, 53, 54, 55], [1008, 1270010, 1010, 1011, 1270008], [], []⟩
def lv15 : Nat → Option Norm := norms [(6, nm15_0), (10, nm15_1), (16, nm15_2)]
def en15 : End := ⟨[(73, .sl (.str))], ⟨[73, 74], [], [], []⟩⟩
def dec15 (l : List TV) (o : List (Nat × TO)) : Option (List (List UInt8) × Int) := match l, o with | [.dv (.sl (.str)) x0, .dv (.int .i64) x1], [] => some (x0, x1) | _, _ => none
def Sl15c (log1 : List UInt8) (out8_a : List (List UInt8)) (step10_b : List Int) (open11_b : List Int) (o1270010_bf0 : List Int) (o1270010_bf1 : List UInt8) (t55_c : Int) (o1270008_c : Wm0T7) : TS := ⟨slots 73 [(1, .dv (.str) log1), (8, .row 1008), (9, .ptr 1270010 0 []), (10, .row 1010), (53, .row 1011), (54, .dv (.int .i64) (open11_b.length : Int)), (55, .dv (.int .i64) t55_c)], [(1008, .row (.str) out8_a), (1270010, .rcd [.dv (.arr 6 (.int .u64)) o1270010_bf0, .dv (.str) o1270010_bf1, .row 1270008]), (1010, .row (.int .u8) step10_b), (1011, .row (.int .i64) open11_b), (1270008, .map (.int .i64) (.bool) o1270008_c)]⟩
def Sl15b (log1 : List UInt8) (out8_a : List (List UInt8)) (t36_b : Int) (step10_b : List Int) (open11_b : List Int) (o1270010_bf0 : List Int) (o1270010_bf1 : List UInt8) (o1270008_b : Wm0T7) : TS := ⟨slots 73 [(1, .dv (.str) log1), (8, .row 1008), (9, .ptr 1270010 0 []), (10, .row 1010), (11, .row 1011), (35, .dv (.int .i64) (log1.length : Int)), (36, .dv (.int .i64) t36_b)], [(1010, .row (.int .u8) step10_b), (1011, .row (.int .i64) open11_b), (1008, .row (.str) out8_a), (1270010, .rcd [.dv (.arr 6 (.int .u64)) o1270010_bf0, .dv (.str) o1270010_bf1, .row 1270008]), (1270008, .map (.int .i64) (.bool) o1270008_b)]⟩
def Sl15a (log1 : List UInt8) (out8_a : List (List UInt8)) (o1270010_af0 : List Int) (o1270010_af1 : List UInt8) (o1270008_a : Wm0T7) : TS := ⟨slots 73 [(1, .dv (.str) log1), (8, .row 1008), (9, .ptr 1270010 0 [])], [(1008, .row (.str) out8_a), (1270010, .rcd [.dv (.arr 6 (.int .u64)) o1270010_af0, .dv (.str) o1270010_af1, .row 1270008]), (1270008, .map (.int .i64) (.bool) o1270008_a)]⟩
noncomputable def K15_0 (a41 : Wm0T11) (a42 : Wm0T12) (a46c : Wm0T10) (a47c : Wm0T18) (N : Nat) : Kont (List (List UInt8) × Int) := kont (E15 a41 a42 a46c a47c) lv15 N c15 [1, 1, 1, 1, 0, 1, 0] (fin TI en15 (resOf Tryd.f15) dec15)
noncomputable def R15_0 (a41 : Wm0T11) (a42 : Wm0T12) (a46c : Wm0T10) (a47c : Wm0T18) (N : Nat) (m : Nat) : TS → Option (List (List UInt8) × Int) := loopK (den (E15 a41 a42 a46c a47c) lv15 N (sub c15 [1, 1, 1, 1, 0, 1, 0, 0])) (TS.norm nm15_0) (K15_0 a41 a42 a46c a47c N) m
noncomputable def K15_1 (a41 : Wm0T11) (a42 : Wm0T12) (a46c : Wm0T10) (a47c : Wm0T18) (N : Nat) (T15_0 : Wm0T19) : Kont (List (List UInt8) × Int) := kont (E15 a41 a42 a46c a47c) lv15 N (sub c15 [1, 1, 1, 1, 0, 1, 0, 0]) [1, 0, 1, 1, 0, 1, 0] (kloop (TS.norm nm15_0) (K15_0 a41 a42 a46c a47c N) T15_0)
noncomputable def R15_1 (a41 : Wm0T11) (a42 : Wm0T12) (a46c : Wm0T10) (a47c : Wm0T18) (N : Nat) (T15_0 : Wm0T19) (m : Nat) : TS → Option (List (List UInt8) × Int) := loopK (den (E15 a41 a42 a46c a47c) lv15 N (sub c15 [1, 1, 1, 1, 0, 1, 0, 0, 1, 0, 1, 1, 0, 1, 0, 0])) (TS.norm nm15_1) (K15_1 a41 a42 a46c a47c N T15_0) m
noncomputable def K15_2 (a41 : Wm0T11) (a42 : Wm0T12) (a46c : Wm0T10) (a47c : Wm0T18) (N : Nat) (T15_0 : Wm0T19) : Kont (List (List UInt8) × Int) := kont (E15 a41 a42 a46c a47c) lv15 N (sub c15 [1, 1, 1, 1, 0, 1, 0, 0]) [1, 0, 1, 1, 1, 0, 1, 0] (kloop (TS.norm nm15_0) (K15_0 a41 a42 a46c a47c N) T15_0)
noncomputable def R15_2 (a41 : Wm0T11) (a42 : Wm0T12) (a46c : Wm0T10) (a47c : Wm0T18) (N : Nat) (T15_0 : Wm0T19) (m : Nat) : TS → Option (List (List UInt8) × Int) := loopK (den (E15 a41 a42 a46c a47c) lv15 N (sub c15 [1, 1, 1, 1, 0, 1, 0, 0, 1, 0, 1, 1, 1, 0, 1, 0, 0])) (TS.norm nm15_2) (K15_2 a41 a42 a46c a47c N T15_0) m
def l15c (a41 : Wm0T11) (a42 : Wm0T12) (a46c : Wm0T10) (a47c : Wm0T18) (N : Nat) (log1 : List UInt8) (out8_a : List (List UInt8)) (step10_b : List Int) (open11_b : List Int) (o1270010_bf0 : List Int) (o1270010_bf1 : List UInt8) (rec_l15a : (List (List UInt8)) → (List Int) → (List UInt8) → (List (Int × Bool)) → Option (List (List UInt8) × Int)) : Nat → Int → (List (Int × Bool)) → Option (List (List UInt8) × Int)
 | 0, _, _ => none
 | n + 1, t55_c, o1270008_c => cond (decide (t55_c < (open11_b.length : Int))) (chk (decide (0 ≤ t55_c ∧ t55_c < (open11_b.length : Int))) ((l15c a41 a42 a46c a47c N log1 out8_a step10_b open11_b o1270010_bf0 o1270010_bf1 rec_l15a n (w64 (t55_c + (1 : Int))) (mdel (kt := .int .i64) (vt := .bool) o1270008_c (open11_b.getD t55_c.toNat (0 : Int))))))
   ((a47c step10_b).bind fun r4 =>
   chk (small (out8_a.length + 1) 16) ((rec_l15a (out8_a ++ ([toBytes r4] : List (List UInt8))) o1270010_bf0 o1270010_bf1 o1270008_c)))
theorem wl15c (a41 : Wm0T11) (a42 : Wm0T12) (a46c : Wm0T10) (a47c : Wm0T18) (N : Nat) (log1 : List UInt8) (out8_a : List (List UInt8)) (step10_b : List Int) (open11_b : List Int) (o1270010_bf0 : List Int) (o1270010_bf1 : List UInt8) (T15_0 : Wm0T19) (m : Nat) (t55_c : Int) (o1270008_c : Wm0T7) : R15_2 a41 a42 a46c a47c N T15_0 (m + 1) (Sl15c log1 out8_a step10_b open11_b o1270010_bf0 o1270010_bf1 t55_c o1270008_c) = cond (decide (t55_c < (open11_b.length : Int))) (chk (decide (0 ≤ t55_c ∧ t55_c < (open11_b.length : Int))) ((R15_2 a41 a42 a46c a47c N T15_0 m (Sl15c log1 out8_a step10_b open11_b o1270010_bf0 o1270010_bf1 (w64 (t55_c + (1 : Int))) (mdel (kt := .int .i64) (vt := .bool) o1270008_c (open11_b.getD t55_c.toNat (0 : Int)))))))
   ((a47c step10_b).bind fun r4 =>
   chk (small (out8_a.length + 1) 16) ((T15_0 (Sl15a log1 (out8_a ++ ([toBytes r4] : List (List UInt8))) o1270010_bf0 o1270010_bf1 o1270008_c)))) := by kernel_rfl
theorem ql15c (a41 : Wm0T11) (a42 : Wm0T12) (a46c : Wm0T10) (a47c : Wm0T18) (N : Nat) (log1 : List UInt8) (out8_a : List (List UInt8)) (step10_b : List Int) (open11_b : List Int) (o1270010_bf0 : List Int) (o1270010_bf1 : List UInt8) (T15_0 : Wm0T19) : ∀ (m : Nat) (t55_c : Int) (o1270008_c : Wm0T7), R15_2 a41 a42 a46c a47c N T15_0 m (Sl15c log1 out8_a step10_b open11_b o1270010_bf0 o1270010_bf1 t55_c o1270008_c) = l15c a41 a42 a46c a47c N log1 out8_a step10_b open11_b o1270010_bf0 o1270010_bf1 (fun y0 y1 y2 y3 => T15_0 (Sl15a log1 y0 y1 y2 y3)) m t55_c o1270008_c
        | 0, _, _ => rfl
        | m + 1, t55_c, o1270008_c => by rw [wl15c]; simp only [l15c, ql15c a41 a42 a46c a47c N log1 out8_a step10_b open11_b o1270010_bf0 o1270010_bf1 T15_0 m]
def l15b (a41 : Wm0T11) (a42 : Wm0T12) (a46c : Wm0T10) (a47c : Wm0T18) (N : Nat) (log1 : List UInt8) (out8_a : List (List UInt8)) (rec_l15a : (List (List UInt8)) → (List Int) → (List UInt8) → (List (Int × Bool)) → Option (List (List UInt8) × Int)) : Nat → Int → (List Int) → (List Int) → (List Int) → (List UInt8) → (List (Int × Bool)) → Option (List (List UInt8) × Int)
 | 0, _, _, _, _, _, _ => none
 | n + 1, t36_b, step10_b, open11_b, o1270010_bf0, o1270010_bf1, o1270008_b => cond (decide (t36_b < (log1.length : Int))) ((a46c t36_b o1270010_bf0 o1270010_bf1 o1270008_b).bind fun r3 =>
   cond (r3.1) (chk (decide (0 ≤ t36_b ∧ t36_b < (log1.length : Int))) (chk (small (step10_b.length + 1) 1) (chk (small (open11_b.length + 1) 8) ((l15b a41 a42 a46c a47c N log1 out8_a rec_l15a n (w64 (t36_b + (1 : Int))) (step10_b ++ ([(((log1.getD t36_b.toNat 0).toNat : Nat) : Int)] : List Int)) (open11_b ++ ([t36_b] : List Int)) r3.2.1 r3.2.2.1 r3.2.2.2)))))
   ((l15b a41 a42 a46c a47c N log1 out8_a rec_l15a n (w64 (t36_b + (1 : Int))) step10_b open11_b r3.2.1 r3.2.2.1 r3.2.2.2)))
   ((l15c a41 a42 a46c a47c N log1 out8_a step10_b open11_b o1270010_bf0 o1270010_bf1 rec_l15a N (0 : Int) o1270008_b))
theorem wl15b (a41 : Wm0T11) (a42 : Wm0T12) (a46c : Wm0T10) (a47c : Wm0T18) (N : Nat) (log1 : List UInt8) (out8_a : List (List UInt8)) (T15_0 : Wm0T19) (m : Nat) (t36_b : Int) (step10_b : List Int) (open11_b : List Int) (o1270010_bf0 : List Int) (o1270010_bf1 : List UInt8) (o1270008_b : Wm0T7) : R15_1 a41 a42 a46c a47c N T15_0 (m + 1) (Sl15b log1 out8_a t36_b step10_b open11_b o1270010_bf0 o1270010_bf1 o1270008_b) = cond (decide (t36_b < (log1.length : Int))) ((a46c t36_b o1270010_bf0 o1270010_bf1 o1270008_b).bind fun r3 =>
   cond (r3.1) (chk (decide (0 ≤ t36_b ∧ t36_b < (log1.length : Int))) (chk (small (step10_b.length + 1) 1) (chk (small (open11_b.length + 1) 8) ((R15_1 a41 a42 a46c a47c N T15_0 m (Sl15b log1 out8_a (w64 (t36_b + (1 : Int))) (step10_b ++ ([(((log1.getD t36_b.toNat 0).toNat : Nat) : Int)] : List Int)) (open11_b ++ ([t36_b] : List Int)) r3.2.1 r3.2.2.1 r3.2.2.2))))))
   ((R15_1 a41 a42 a46c a47c N T15_0 m (Sl15b log1 out8_a (w64 (t36_b + (1 : Int))) step10_b open11_b r3.2.1 r3.2.2.1 r3.2.2.2))))
   ((R15_2 a41 a42 a46c a47c N T15_0 N (Sl15c log1 out8_a step10_b open11_b o1270010_bf0 o1270010_bf1 (0 : Int) o1270008_b))) := by kernel_rfl
theorem ql15b (a41 : Wm0T11) (a42 : Wm0T12) (a46c : Wm0T10) (a47c : Wm0T18) (N : Nat) (log1 : List UInt8) (out8_a : List (List UInt8)) (T15_0 : Wm0T19) : ∀ (m : Nat) (t36_b : Int) (step10_b : List Int) (open11_b : List Int) (o1270010_bf0 : List Int) (o1270010_bf1 : List UInt8) (o1270008_b : Wm0T7), R15_1 a41 a42 a46c a47c N T15_0 m (Sl15b log1 out8_a t36_b step10_b open11_b o1270010_bf0 o1270010_bf1 o1270008_b) = l15b a41 a42 a46c a47c N log1 out8_a (fun y0 y1 y2 y3 => T15_0 (Sl15a log1 y0 y1 y2 y3)) m t36_b step10_b open11_b o1270010_bf0 o1270010_bf1 o1270008_b
        | 0, _, _, _, _, _, _ => rfl
        | m + 1, t36_b, step10_b, open11_b, o1270010_bf0, o1270010_bf1, o1270008_b => by rw [wl15b]; simp only [l15b, ql15c, ql15b a41 a42 a46c a47c N log1 out8_a T15_0 m]
def l15a (a41 : Wm0T11) (a42 : Wm0T12) (a46c : Wm0T10) (a47c : Wm0T18) (N : Nat) (log1 : List UInt8) : Nat → (List (List UInt8)) → (List Int) → (List UInt8) → (List (Int × Bool)) → Option (List (List UInt8) × Int)
 | 0, _, _, _, _ => none
 | n + 1, out8_a, o1270010_af0, o1270010_af1, o1270008_a => cond (decide ((o1270008_a.length : Int) > (0 : Int))) ((l15b a41 a42 a46c a47c N log1 out8_a (fun y0 y1 y2 y3 => (l15a a41 a42 a46c a47c N log1 n y0 y1 y2 y3)) N (0 : Int) ([] : List Int) ([] : List Int) o1270010_af0 o1270010_af1 o1270008_a))
   (some (out8_a, (0 : Int)))
theorem wl15a (a41 : Wm0T11) (a42 : Wm0T12) (a46c : Wm0T10) (a47c : Wm0T18) (N : Nat) (log1 : List UInt8) (m : Nat) (out8_a : List (List UInt8)) (o1270010_af0 : List Int) (o1270010_af1 : List UInt8) (o1270008_a : Wm0T7) : R15_0 a41 a42 a46c a47c N (m + 1) (Sl15a log1 out8_a o1270010_af0 o1270010_af1 o1270008_a) = cond (decide ((o1270008_a.length : Int) > (0 : Int))) ((R15_1 a41 a42 a46c a47c N (R15_0 a41 a42 a46c a47c N m) N (Sl15b log1 out8_a (0 : Int) ([] : List Int) ([] : List Int) o1270010_af0 o1270010_af1 o1270008_a)))
   (some (out8_a, (0 : Int))) := by kernel_rfl
theorem ql15a (a41 : Wm0T11) (a42 : Wm0T12) (a46c : Wm0T10) (a47c : Wm0T18) (N : Nat) (log1 : List UInt8) : ∀ (m : Nat) (out8_a : List (List UInt8)) (o1270010_af0 : List Int) (o1270010_af1 : List UInt8) (o1270008_a : Wm0T7), R15_0 a41 a42 a46c a47c N m (Sl15a log1 out8_a o1270010_af0 o1270010_af1 o1270008_a) = l15a a41 a42 a46c a47c N log1 m out8_a o1270010_af0 o1270010_af1 o1270008_a
        | 0, _, _, _, _ => rfl
        | m + 1, out8_a, o1270010_af0, o1270010_af1, o1270008_a => by rw [wl15a]; simp only [l15a, ql15b, ql15a a41 a42 a46c a47c N log1 m]
def m15 (a41 : Wm0T11) (a42 : Wm0T12) (a46c : Wm0T10) (a47c : Wm0T18) (N : Nat) (o0 : Wm0T3) (log1 : List UInt8) : Option (List (List UInt8) × Int) :=
   (a41 o0 ([log1] : List (List UInt8))).bind fun r1 =>
   cond (r1.2 != (0 : Int)) (some (([] : List (List UInt8)), r1.2))
   ((a42 r1.1 log1).bind fun r2 =>
   (l15a a41 a42 a46c a47c N log1 N ([] : List (List UInt8)) r2.2.1 r2.2.2 r2.1))
theorem wm15 (a41 : Wm0T11) (a42 : Wm0T12) (a46c : Wm0T10) (a47c : Wm0T18) (N : Nat) (o0 : Wm0T3) (log1 : List UInt8) : callF (E15 a41 a42 a46c a47c) lv15 N en15 c15 (resOf Tryd.f15) 71 [.dv (.pair (.int .i64) (.pair (.sl (.arr 2 (.int .i64))) (.unit))) o0, .dv (.str) log1] [] dec15 = (a41 o0 ([log1] : List (List UInt8))).bind fun r1 =>
   cond (r1.2 != (0 : Int)) (some (([] : List (List UInt8)), r1.2))
   ((a42 r1.1 log1).bind fun r2 =>
   (R15_0 a41 a42 a46c a47c N N (Sl15a log1 ([] : List (List UInt8)) r2.2.1 r2.2.2 r2.1))) := by kernel_rfl
theorem k15 (a41 : Wm0T11) (a42 : Wm0T12) (a46c : Wm0T10) (a47c : Wm0T18) (N : Nat) (o0 : Wm0T3) (log1 : List UInt8) : callF (E15 a41 a42 a46c a47c) lv15 N en15 c15 (resOf Tryd.f15) 71 [.dv (.pair (.int .i64) (.pair (.sl (.arr 2 (.int .i64))) (.unit))) o0, .dv (.str) log1] [] dec15 = m15 a41 a42 a46c a47c N o0 log1 := by rw [wm15]; simp only [m15, ql15a]
theorem ok15 (a41 : Wm0T11) (a42 : Wm0T12) (a46c : Wm0T10) (a47c : Wm0T18) (h41 : FnOk Tryd.prog 41 (F41 a41)) (h42 : FnOk Tryd.prog 42 (F42 a42)) (h46c : FnOk Tryd.prog 46 (F46c a46c)) (h47c : FnOk Tryd.prog 47 (F47c a47c)) (a : (Int × List (List Int) × Unit) → (List UInt8) → Option (List (List UInt8) × Int)) (h : ∀ o0 log1 r, a o0 log1 = some r → (∃ N, m15 a41 a42 a46c a47c N o0 log1 = some r)) : FnOk Tryd.prog 15 (F15 a) := by
 intro args Of x hx
 simp only [F15] at hx
 split at hx
 ·rename_i o0 log1
  obtain ⟨N, hN⟩ := h _ _ _ hx
  refine lifted (L := [(41, F41 a41), (42, F42 a42), (46, F46c a46c), (47, F47c a47c)]) (rc := nrc) (fz := nfz) (fn := Tryd.f15) (by kernel_rfl) (by kernel_rfl) (by kernel_rfl) (by kernel_rfl) rfl ?_ ((k15 a41 a42 a46c a47c N _ _).trans hN) ?_
  ·intro p hp; simp only [List.mem_cons, List.not_mem_nil, or_false] at hp; rcases hp with rfl | rfl | rfl | rfl
   ·exact h41
   ·exact h42
   ·exact h46c
   ·exact h47c
  ·intro l o hd
   simp only [dec15] at hd
   split at hd
   ·obtain rfl := Option.some.inj hd; exact ⟨rfl, rfl⟩
   ·cases hd
 ·cases hx
def E17 : Env := mkE TI TY [] nrc nfz
noncomputable def c17 : Code := bodyOf Tryd.f17
def nm17_0 : Norm := ⟨[0, 1, 5], [], [], []⟩
def lv17 : Nat → Option Norm := norms [(4, nm17_0)]
def en17 : End := ⟨[], ⟨[26], [], [], []⟩⟩
def dec17 (l : List TV) (o : List (Nat × TO)) : Option (Bool) := match l, o with | [.dv (.bool) x0], [] => some (x0) | _, _ => none
def Sl17a (ax0 : List (List UInt8)) (b1 : List (List UInt8)) (i5_a : Int) : TS := ⟨slots 26 [(0, .dv (.sl (.str)) ax0), (1, .dv (.sl (.str)) b1), (5, .dv (.int .i64) i5_a)], []⟩
noncomputable def K17_0 (N : Nat) : Kont (Bool) := kont (E17) lv17 N c17 [1, 1, 0, 1, 0] (fin TI en17 (resOf Tryd.f17) dec17)
noncomputable def R17_0 (N : Nat) (m : Nat) : TS → Option (Bool) := loopK (den (E17) lv17 N (sub c17 [1, 1, 0, 1, 0, 0])) (TS.norm nm17_0) (K17_0 N) m
def l17a (N : Nat) (ax0 : List (List UInt8)) (b1 : List (List UInt8)) : Nat → Int → Option (Bool)
 | 0, _ => none
 | n + 1, i5_a => cond (decide (i5_a < (ax0.length : Int))) (chk (decide (0 ≤ i5_a ∧ i5_a < (ax0.length : Int))) (chk (decide (0 ≤ i5_a ∧ i5_a < (b1.length : Int))) (cond (!((ax0.getD i5_a.toNat ([] : List UInt8)) == (b1.getD i5_a.toNat ([] : List UInt8)))) (some false)
   ((l17a N ax0 b1 n (w64 (i5_a + (1 : Int))))))))
   (some true)
theorem wl17a (N : Nat) (ax0 : List (List UInt8)) (b1 : List (List UInt8)) (m : Nat) (i5_a : Int) : R17_0 N (m + 1) (Sl17a ax0 b1 i5_a) = cond (decide (i5_a < (ax0.length : Int))) (chk (decide (0 ≤ i5_a ∧ i5_a < (ax0.length : Int))) (chk (decide (0 ≤ i5_a ∧ i5_a < (b1.length : Int))) (cond (!((ax0.getD i5_a.toNat ([] : List UInt8)) == (b1.getD i5_a.toNat ([] : List UInt8)))) (some false)
   ((R17_0 N m (Sl17a ax0 b1 (w64 (i5_a + (1 : Int)))))))))
   (some true) := by kernel_rfl
theorem ql17a (N : Nat) (ax0 : List (List UInt8)) (b1 : List (List UInt8)) : ∀ (m : Nat) (i5_a : Int), R17_0 N m (Sl17a ax0 b1 i5_a) = l17a N ax0 b1 m i5_a
        | 0, _ => rfl
        | m + 1, i5_a => by rw [wl17a]; simp only [l17a, ql17a N ax0 b1 m]
def m17 (N : Nat) (ax0 : List (List UInt8)) (b1 : List (List UInt8)) : Option (Bool) :=
   cond ((ax0.length : Int) != (b1.length : Int)) (some false)
   ((l17a N ax0 b1 N (0 : Int)))
theorem wm17 (N : Nat) (ax0 : List (List UInt8)) (b1 : List (List UInt8)) : callF (E17) lv17 N en17 c17 (resOf Tryd.f17) 24 [.dv (.sl (.str)) ax0, .dv (.sl (.str)) b1] [] dec17 = cond ((ax0.length : Int) != (b1.length : Int)) (some false)
   ((R17_0 N N (Sl17a ax0 b1 (0 : Int)))) := by kernel_rfl
theorem k17 (N : Nat) (ax0 : List (List UInt8)) (b1 : List (List UInt8)) : callF (E17) lv17 N en17 c17 (resOf Tryd.f17) 24 [.dv (.sl (.str)) ax0, .dv (.sl (.str)) b1] [] dec17 = m17 N ax0 b1 := by rw [wm17]; simp only [m17, ql17a]
theorem ok17 (a : (List (List UInt8)) → (List (List UInt8)) → Option (Bool)) (h : ∀ ax0 b1 r, a ax0 b1 = some r → (∃ N, m17 N ax0 b1 = some r)) : FnOk Tryd.prog 17 (F17 a) := by
 intro args Of x hx
 simp only [F17] at hx
 split at hx
 ·rename_i ax0 b1
  obtain ⟨N, hN⟩ := h _ _ _ hx
  refine lifted (L := []) (rc := nrc) (fz := nfz) (fn := Tryd.f17) (by kernel_rfl) (by kernel_rfl) (by kernel_rfl) (by kernel_rfl) rfl ?_ ((k17 N _ _).trans hN) ?_
  ·intro p hp; cases hp
  ·intro l o hd
   simp only [dec17] at hd
   split at hd
   ·obtain rfl := Option.some.inj hd; exact ⟨rfl, rfl⟩
   ·cases hd
 ·cases hx
def E18 (a41 : Wm0T11) (a49 : Wm0T9) (want0 : Int) (want1 : Int) : Env := mkEw TI TY [(41, F41 a41), (49, F49 a49)] nrc nfz (fun i => ([] : List (Nat × Nat)).lookup i)
noncomputable def c18 : Code := bodyOf Tryd.f18
def nm18_0 : Norm := ⟨[1, 6, 8, 27, 28], [6, 8], [], []⟩
def nm18_1 : Norm := ⟨[1, 6, 8, 9, 27, 28, 31, 32], [6, 8], [], []⟩
def nm18_2 : Norm := ⟨[1, 8, 55, 56], [8], [(.slot 11, 1011, .tup (.pair (.int .u64) (.int .i64)))], []⟩
def nm18_3 : Norm := ⟨[1, 8, 12, 55, 56, 60], [8, 58, 60], [], []⟩
def nm18_4 : Norm := ⟨[1, 8, 12, 13, 14, 55, 56, 60, 67, 68], [8, 58, 60], [], []⟩
def lv18 : Nat → Option Norm := norms [(6, nm18_0), (9, nm18_1), (17, nm18_2), (20, nm18_3), (23, nm18_4)]
def en18 : End := ⟨[], ⟨[101, 102], [], [], []⟩⟩
def dec18 (want0 : Int) (want1 : Int) (l : List TV) (o : List (Nat × TO)) : Option Unit := match l, o with | [.dv (.int .i64) x0, .dv (.int .i64) x1], [] => chk (decide (x0 = want0) && decide (x1 = want1)) (some ()) | _, _ => none
def Sl18b (log1 : List UInt8) (r1 : List Int × Int) (t28_a : Int) (t32_b : Int) (o8_b : Wm0T5) : TS := ⟨slots 101 [(1, .dv (.str) log1), (6, .ptr 6 0 []), (8, .ptr 8 0 []), (9, .dv (.int .i64) t28_a), (27, .dv (.int .i64) (log1.length : Int)), (28, .dv (.int .i64) t28_a), (31, .dv (.int .i64) t28_a), (32, .dv (.int .i64) t32_b)], [(6, .row (.arr 6 (.int .u64)) ([r1.1] : List (List Int))), (8, .row (.arr 14 (.int .u64)) o8_b)]⟩
def Sl18e (log1 : List UInt8) (o8_a : Wm0T5) (t56_c : Int) (h3 : Int × Int) (g4 : List (Int × Int)) (t68_e : Int) (o58_e : List (Int × Int)) : TS := ⟨slots 101 [(1, .dv (.str) log1), (8, .ptr 8 0 []), (12, .row 58), (13, .dv (.int .u64) h3.1), (14, .dv (.int .i64) h3.2), (55, .dv (.int .i64) (log1.length : Int)), (56, .dv (.int .i64) t56_c), (60, .row 60), (67, .dv (.int .i64) (log1.length : Int)), (68, .dv (.int .i64) t68_e)], [(8, .row (.arr 14 (.int .u64)) o8_a), (58, .map (.int .u64) (.int .i64) o58_e), (60, .iter (.int .u64) (.int .i64) g4 none)]⟩
def Sl18d (log1 : List UInt8) (o8_a : Wm0T5) (t56_c : Int) (o58_d : List (Int × Int)) (o60_d : List (Int × Int)) : TS := ⟨slots 101 [(1, .dv (.str) log1), (8, .ptr 8 0 []), (12, .row 58), (55, .dv (.int .i64) (log1.length : Int)), (56, .dv (.int .i64) t56_c), (60, .row 60)], [(8, .row (.arr 14 (.int .u64)) o8_a), (58, .map (.int .u64) (.int .i64) o58_d), (60, .iter (.int .u64) (.int .i64) o60_d none)]⟩
def Sl18c (log1 : List UInt8) (o8_a : Wm0T5) (t56_c : Int) (counts11_c : List (Int × Int)) : TS := ⟨slots 101 [(1, .dv (.str) log1), (8, .ptr 8 0 []), (11, .row 1011), (55, .dv (.int .i64) (log1.length : Int)), (56, .dv (.int .i64) t56_c)], [(1011, .map (.int .u64) (.int .i64) counts11_c), (8, .row (.arr 14 (.int .u64)) o8_a)]⟩
def Sl18a (log1 : List UInt8) (r1 : List Int × Int) (t28_a : Int) (o8_a : Wm0T5) : TS := ⟨slots 101 [(1, .dv (.str) log1), (6, .ptr 6 0 []), (8, .ptr 8 0 []), (27, .dv (.int .i64) (log1.length : Int)), (28, .dv (.int .i64) t28_a)], [(6, .row (.arr 6 (.int .u64)) ([r1.1] : List (List Int))), (8, .row (.arr 14 (.int .u64)) o8_a)]⟩
noncomputable def K18_0 (a41 : Wm0T11) (a49 : Wm0T9) (want0 : Int) (want1 : Int) (N : Nat) : Kont (Unit) := kont (E18 a41 a49 want0 want1) lv18 N c18 [1, 1, 1, 1, 0, 1, 0] (fin TI en18 (resOf Tryd.f18) (dec18 want0 want1))
noncomputable def R18_0 (a41 : Wm0T11) (a49 : Wm0T9) (want0 : Int) (want1 : Int) (N : Nat) (m : Nat) : TS → Option (Unit) := loopK (den (E18 a41 a49 want0 want1) lv18 N (sub c18 [1, 1, 1, 1, 0, 1, 0, 0])) (TS.norm nm18_0) (K18_0 a41 a49 want0 want1 N) m
noncomputable def K18_1 (a41 : Wm0T11) (a49 : Wm0T9) (want0 : Int) (want1 : Int) (N : Nat) (T18_0 : Wm0T20) : Kont (Unit) := kont (E18 a41 a49 want0 want1) lv18 N (sub c18 [1, 1, 1, 1, 0, 1, 0, 0]) [1, 1, 0, 0, 1, 1, 0] (kloop (TS.norm nm18_0) (K18_0 a41 a49 want0 want1 N) T18_0)
noncomputable def R18_1 (a41 : Wm0T11) (a49 : Wm0T9) (want0 : Int) (want1 : Int) (N : Nat) (T18_0 : Wm0T20) (m : Nat) : TS → Option (Unit) := loopK (den (E18 a41 a49 want0 want1) lv18 N (sub c18 [1, 1, 1, 1, 0, 1, 0, 0, 1, 1, 0, 0, 1, 1, 0, 0])) (TS.norm nm18_1) (K18_1 a41 a49 want0 want1 N T18_0) m
noncomputable def K18_2 (a41 : Wm0T11) (a49 : Wm0T9) (want0 : Int) (want1 : Int) (N : Nat) : Kont (Unit) := kont (E18 a41 a49 want0 want1) lv18 N c18 [1, 1, 1, 1, 1, 1, 0, 1, 0] (fin TI en18 (resOf Tryd.f18) (dec18 want0 want1))
noncomputable def R18_2 (a41 : Wm0T11) (a49 : Wm0T9) (want0 : Int) (want1 : Int) (N : Nat) (m : Nat) : TS → Option (Unit) := loopK (den (E18 a41 a49 want0 want1) lv18 N (sub c18 [1, 1, 1, 1, 1, 1, 0, 1, 0, 0])) (TS.norm nm18_2) (K18_2 a41 a49 want0 want1 N) m
noncomputable def K18_3 (a41 : Wm0T11) (a49 : Wm0T9) (want0 : Int) (want1 : Int) (N : Nat) (T18_2 : Wm0T20) : Kont (Unit) := kont (E18 a41 a49 want0 want1) lv18 N (sub c18 [1, 1, 1, 1, 1, 1, 0, 1, 0, 0]) [1, 1, 0, 0, 1, 0, 1, 0] (kloop (TS.norm nm18_2) (K18_2 a41 a49 want0 want1 N) T18_2)
noncomputable def R18_3 (a41 : Wm0T11) (a49 : Wm0T9) (want0 : Int) (want1 : Int) (N : Nat) (T18_2 : Wm0T20) (m : Nat) : TS → Option (Unit) := loopK (den (E18 a41 a49 want0 want1) lv18 N (sub c18 [1, 1, 1, 1, 1, 1, 0, 1, 0, 0, 1, 1, 0, 0, 1, 0, 1, 0, 0])) (TS.norm nm18_3) (K18_3 a41 a49 want0 want1 N T18_2) m
noncomputable def K18_4 (a41 : Wm0T11) (a49 : Wm0T9) (want0 : Int) (want1 : Int) (N : Nat) (T18_2 : Wm0T20) (T18_3 : Wm0T20) : Kont (Unit) := kont (E18 a41 a49 want0 want1) lv18 N (sub c18 [1, 1, 1, 1, 1, 1, 0, 1, 0, 0, 1, 1, 0, 0, 1, 0, 1, 0, 0]) [1, 1, 0, 1, 1, 0] (kloop (TS.norm nm18_3) (K18_3 a41 a49 want0 want1 N T18_2) T18_3)
noncomputable def R18_4 (a41 : Wm0T11) (a49 : Wm0T9) (want0 : Int) (want1 : Int) (N : Nat) (T18_2 : Wm0T20) (T18_3 : Wm0T20) (m : Nat) : TS → Option (Unit) := loopK (den (E18 a41 a49 want0 want1) lv18 N (sub c18 [1, 1, 1, 1, 1, 1, 0, 1, 0, 0, 1, 1, 0, 0, 1, 0, 1, 0, 0, 1, 1, 0, 1, 1, 0, 0])) (TS.norm nm18_4) (K18_4 a41 a49 want0 want1 N T18_2 T18_3) m
def l18b (a41 : Wm0T11) (a49 : Wm0T9) (want0 : Int) (want1 : Int) (N : Nat) (log1 : List UInt8) (r1 : List Int × Int) (t28_a : Int) (rec_l18a : Int → (List (List Int)) → Option (Unit)) : Nat → Int → (List (List Int)) → Option (Unit)
 | 0, _, _ => none
 | n + 1, t32_b, o8_b => cond (decide (t32_b < t28_a)) (chk (decide (0 ≤ t32_b ∧ t32_b < (log1.length : Int))) (chk (decide (0 ≤ t28_a ∧ t28_a < (log1.length : Int))) ((a49 r1.1 (((log1.getD t32_b.toNat 0).toNat : Nat) : Int) (((log1.getD t28_a.toNat 0).toNat : Nat) : Int)).bind fun r2 =>
   cond (r2) (chk (decide (0 ≤ t28_a ∧ t28_a < (14 : Int))) (chk (decide (0 ≤ t32_b)) (chk (decide (0 ≤ t28_a ∧ t28_a < (14 : Int))) (chk ((decide (t28_a.toNat < (o8_b.getD 0 ([(0 : Int), (0 : Int), (0 : Int), (0 : Int), (0 : Int), (0 : Int), (0 : Int), (0 : Int), (0 : Int), (0 : Int), (0 : Int), (0 : Int), (0 : Int), (0 : Int)] : List Int)).length)) && (true)) ((l18b a41 a49 want0 want1 N log1 r1 t28_a rec_l18a n (w64 (t32_b + (1 : Int))) (o8_b.set 0 ((o8_b.getD 0 ([(0 : Int), (0 : Int), (0 : Int), (0 : Int), (0 : Int), (0 : Int), (0 : Int), (0 : Int), (0 : Int), (0 : Int), (0 : Int), (0 : Int), (0 : Int), (0 : Int)] : List Int)).set t28_a.toNat (bOr .u64 ((o8_b.getD 0 ([(0 : Int), (0 : Int), (0 : Int), (0 : Int), (0 : Int), (0 : Int), (0 : Int), (0 : Int), (0 : Int), (0 : Int), (0 : Int), (0 : Int), (0 : Int), (0 : Int)] : List Int)).getD t28_a.toNat (0 : Int)) (IntKind.wrap .u64 ((1 : Int) * 2 ^ min (Int.toNat t32_b) 64)))))))))))
   ((l18b a41 a49 want0 want1 N log1 r1 t28_a rec_l18a n (w64 (t32_b + (1 : Int))) o8_b)))))
   ((rec_l18a (w64 (t28_a + (1 : Int))) o8_b))
theorem wl18b (a41 : Wm0T11) (a49 : Wm0T9) (want0 : Int) (want1 : Int) (N : Nat) (log1 : List UInt8) (r1 : List Int × Int) (t28_a : Int) (T18_0 : Wm0T20) (m : Nat) (t32_b : Int) (o8_b : Wm0T5) : R18_1 a41 a49 want0 want1 N T18_0 (m + 1) (Sl18b log1 r1 t28_a t32_b o8_b) = cond (decide (t32_b < t28_a)) (chk (decide (0 ≤ t32_b ∧ t32_b < (log1.length : Int))) (chk (decide (0 ≤ t28_a ∧ t28_a < (log1.length : Int))) ((a49 r1.1 (((log1.getD t32_b.toNat 0).toNat : Nat) : Int) (((log1.getD t28_a.toNat 0).toNat : Nat) : Int)).bind fun r2 =>
   cond (r2) (chk (decide (0 ≤ t28_a ∧ t28_a < (14 : Int))) (chk (decide (0 ≤ t32_b)) (chk (decide (0 ≤ t28_a ∧ t28_a < (14 : Int))) (chk ((decide (t28_a.toNat < (o8_b.getD 0 ([(0 : Int), (0 : Int), (0 : Int), (0 : Int), (0 : Int), (0 : Int), (0 : Int), (0 : Int), (0 : Int), (0 : Int), (0 : Int), (0 : Int), (0 : Int), (0 : Int)] : List Int)).length)) && (true)) ((R18_1 a41 a49 want0 want1 N T18_0 m (Sl18b log1 r1 t28_a (w64 (t32_b + (1 : Int))) (o8_b.set 0 ((o8_b.getD 0 ([(0 : Int), (0 : Int), (0 : Int), (0 : Int), (0 : Int), (0 : Int), (0 : Int), (0 : Int), (0 : Int), (0 : Int), (0 : Int), (0 : Int), (0 : Int), (0 : Int)] : List Int)).set t28_a.toNat (bOr .u64 ((o8_b.getD 0 ([(0 : Int), (0 : Int), (0 : Int), (0 : Int), (0 : Int), (0 : Int), (0 : Int), (0 : Int), (0 : Int), (0 : Int), (0 : Int), (0 : Int), (0 : Int), (0 : Int)] : List Int)).getD t28_a.toNat (0 : Int)) (IntKind.wrap .u64 ((1 : Int) * 2 ^ min (Int.toNat t32_b) 64))))))))))))
   ((R18_1 a41 a49 want0 want1 N T18_0 m (Sl18b log1 r1 t28_a (w64 (t32_b + (1 : Int))) o8_b))))))
   ((T18_0 (Sl18a log1 r1 (w64 (t28_a + (1 : Int))) o8_b))) := by kernel_rfl
theorem ql18b (a41 : Wm0T11) (a49 : Wm0T9) (want0 : Int) (want1 : Int) (N : Nat) (log1 : List UInt8) (r1 : List Int × Int) (t28_a : Int) (T18_0 : Wm0T20) : ∀ (m : Nat) (t32_b : Int) (o8_b : Wm0T5), R18_1 a41 a49 want0 want1 N T18_0 m (Sl18b log1 r1 t28_a t32_b o8_b) = l18b a41 a49 want0 want1 N log1 r1 t28_a (fun y0 y1 => T18_0 (Sl18a log1 r1 y0 y1)) m t32_b o8_b
        | 0, _, _ => rfl
        | m + 1, t32_b, o8_b => by rw [wl18b]; simp only [l18b, ql18b a41 a49 want0 want1 N log1 r1 t28_a T18_0 m]
def l18e (a41 : Wm0T11) (a49 : Wm0T9) (want0 : Int) (want1 : Int) (N : Nat) (log1 : List UInt8) (o8_a : Wm0T5) (t56_c : Int) (h3 : Int × Int) (g4 : List (Int × Int)) (rec_l18d : (List (Int × Int)) → (List (Int × Int)) → Option (Unit)) : Nat → Int → (List (Int × Int)) → Option (Unit)
 | 0, _, _ => none
 | n + 1, t68_e, o58_e => cond (decide (t68_e < (log1.length : Int))) (chk (decide (0 ≤ t68_e)) (cond ((bAnd .u64 (Int.fdiv h3.1 (2 ^ min (Int.toNat t68_e) 64)) (1 : Int)) == (0 : Int)) (chk (decide (0 ≤ t68_e ∧ t68_e < (14 : Int))) (cond ((bAndNot .u64 ((o8_a.getD 0 ([(0 : Int), (0 : Int), (0 : Int), (0 : Int), (0 : Int), (0 : Int), (0 : Int), (0 : Int), (0 : Int), (0 : Int), (0 : Int), (0 : Int), (0 : Int), (0 : Int)] : List Int)).getD t68_e.toNat (0 : Int)) h3.1) == (0 : Int)) (chk (decide (0 ≤ t68_e)) ((l18e a41 a49 want0 want1 N log1 o8_a t56_c h3 g4 rec_l18d n (w64 (t68_e + (1 : Int))) (mput (kt := .int .u64) (vt := .int .i64) o58_e (bOr .u64 h3.1 (IntKind.wrap .u64 ((1 : Int) * 2 ^ min (Int.toNat t68_e) 64))) (w64 (((mget (kt := .int .u64) (vt := .int .i64) o58_e (bOr .u64 h3.1 (IntKind.wrap .u64 ((1 : Int) * 2 ^ min (Int.toNat t68_e) 64)))).getD (0 : Int)) + h3.2))))))
   ((l18e a41 a49 want0 want1 N log1 o8_a t56_c h3 g4 rec_l18d n (w64 (t68_e + (1 : Int))) o58_e))))
   ((l18e a41 a49 want0 want1 N log1 o8_a t56_c h3 g4 rec_l18d n (w64 (t68_e + (1 : Int))) o58_e))))
   ((rec_l18d o58_e g4))
theorem wl18e (a41 : Wm0T11) (a49 : Wm0T9) (want0 : Int) (want1 : Int) (N : Nat) (log1 : List UInt8) (o8_a : Wm0T5) (t56_c : Int) (h3 : Int × Int) (g4 : List (Int × Int)) (T18_2 : Wm0T20) (T18_3 : Wm0T20) (m : Nat) (t68_e : Int) (o58_e : List (Int × Int)) : R18_4 a41 a49 want0 want1 N T18_2 T18_3 (m + 1) (Sl18e log1 o8_a t56_c h3 g4 t68_e o58_e) = cond (decide (t68_e < (log1.length : Int))) (chk (decide (0 ≤ t68_e)) (cond ((bAnd .u64 (Int.fdiv h3.1 (2 ^ min (Int.toNat t68_e) 64)) (1 : Int)) == (0 : Int)) (chk (decide (0 ≤ t68_e ∧ t68_e < (14 : Int))) (cond ((bAndNot .u64 ((o8_a.getD 0 ([(0 : Int), (0 : Int), (0 : Int), (0 : Int), (0 : Int), (0 : Int), (0 : Int), (0 : Int), (0 : Int), (0 : Int), (0 : Int), (0 : Int), (0 : Int), (0 : Int)] : List Int)).getD t68_e.toNat (0 : Int)) h3.1) == (0 : Int)) (chk (decide (0 ≤ t68_e)) ((R18_4 a41 a49 want0 want1 N T18_2 T18_3 m (Sl18e log1 o8_a t56_c h3 g4 (w64 (t68_e + (1 : Int))) (mput (kt := .int .u64) (vt := .int .i64) o58_e (bOr .u64 h3.1 (IntKind.wrap .u64 ((1 : Int) * 2 ^ min (Int.toNat t68_e) 64))) (w64 (((mget (kt := .int .u64) (vt := .int .i64) o58_e (bOr .u64 h3.1 (IntKind.wrap .u64 ((1 : Int) * 2 ^ min (Int.toNat t68_e) 64)))).getD (0 : Int)) + h3.2)))))))
   ((R18_4 a41 a49 want0 want1 N T18_2 T18_3 m (Sl18e log1 o8_a t56_c h3 g4 (w64 (t68_e + (1 : Int))) o58_e)))))
   ((R18_4 a41 a49 want0 want1 N T18_2 T18_3 m (Sl18e log1 o8_a t56_c h3 g4 (w64 (t68_e + (1 : Int))) o58_e)))))
   ((T18_3 (Sl18d log1 o8_a t56_c o58_e g4))) := by kernel_rfl
theorem ql18e (a41 : Wm0T11) (a49 : Wm0T9) (want0 : Int) (want1 : Int) (N : Nat) (log1 : List UInt8) (o8_a : Wm0T5) (t56_c : Int) (h3 : Int × Int) (g4 : List (Int × Int)) (T18_2 : Wm0T20) (T18_3 : Wm0T20) : ∀ (m : Nat) (t68_e : Int) (o58_e : List (Int × Int)), R18_4 a41 a49 want0 want1 N T18_2 T18_3 m (Sl18e log1 o8_a t56_c h3 g4 t68_e o58_e) = l18e a41 a49 want0 want1 N log1 o8_a t56_c h3 g4 (fun y0 y1 => T18_3 (Sl18d log1 o8_a t56_c y0 y1)) m t68_e o58_e
        | 0, _, _ => rfl
        | m + 1, t68_e, o58_e => by rw [wl18e]; simp only [l18e, ql18e a41 a49 want0 want1 N log1 o8_a t56_c h3 g4 T18_2 T18_3 m]
def l18d (a41 : Wm0T11) (a49 : Wm0T9) (want0 : Int) (want1 : Int) (N : Nat) (log1 : List UInt8) (o8_a : Wm0T5) (t56_c : Int) (rec_l18c : Int → (List (Int × Int)) → Option (Unit)) : Nat → (List (Int × Int)) → (List (Int × Int)) → Option (Unit)
 | 0, _, _ => none
 | n + 1, o58_d, o60_d => eachK o60_d ((rec_l18c (w64 (t56_c + (1 : Int))) o58_d)) (fun h3 => fun g4 =>
   (l18e a41 a49 want0 want1 N log1 o8_a t56_c h3 g4 (fun y0 y1 => (l18d a41 a49 want0 want1 N log1 o8_a t56_c rec_l18c n y0 y1)) N (0 : Int) o58_d))
theorem wl18d (a41 : Wm0T11) (a49 : Wm0T9) (want0 : Int) (want1 : Int) (N : Nat) (log1 : List UInt8) (o8_a : Wm0T5) (t56_c : Int) (T18_2 : Wm0T20) (m : Nat) (o58_d : List (Int × Int)) (o60_d : List (Int × Int)) : R18_3 a41 a49 want0 want1 N T18_2 (m + 1) (Sl18d log1 o8_a t56_c o58_d o60_d) = eachK o60_d ((T18_2 (Sl18c log1 o8_a (w64 (t56_c + (1 : Int))) o58_d))) (fun h3 => fun g4 =>
   (R18_4 a41 a49 want0 want1 N T18_2 (R18_3 a41 a49 want0 want1 N T18_2 m) N (Sl18e log1 o8_a t56_c h3 g4 (0 : Int) o58_d))) := by kernel_rfl
theorem ql18d (a41 : Wm0T11) (a49 : Wm0T9) (want0 : Int) (want1 : Int) (N : Nat) (log1 : List UInt8) (o8_a : Wm0T5) (t56_c : Int) (T18_2 : Wm0T20) : ∀ (m : Nat) (o58_d : List (Int × Int)) (o60_d : List (Int × Int)), R18_3 a41 a49 want0 want1 N T18_2 m (Sl18d log1 o8_a t56_c o58_d o60_d) = l18d a41 a49 want0 want1 N log1 o8_a t56_c (fun y0 y1 => T18_2 (Sl18c log1 o8_a y0 y1)) m o58_d o60_d
        | 0, _, _ => rfl
        | m + 1, o58_d, o60_d => by rw [wl18d]; simp only [l18d, ql18e, ql18d a41 a49 want0 want1 N log1 o8_a t56_c T18_2 m]
def l18c (a41 : Wm0T11) (a49 : Wm0T9) (want0 : Int) (want1 : Int) (N : Nat) (log1 : List UInt8) (o8_a : Wm0T5) : Nat → Int → (List (Int × Int)) → Option (Unit)
 | 0, _, _ => none
 | n + 1, t56_c, counts11_c => cond (decide (t56_c < (log1.length : Int))) ((l18d a41 a49 want0 want1 N log1 o8_a t56_c (fun y0 y1 => (l18c a41 a49 want0 want1 N log1 o8_a n y0 y1)) N ([] : List (Int × Int)) counts11_c))
   (chk (decide (0 ≤ (log1.length : Int))) (chk (decide (((mget (kt := .int .u64) (vt := .int .i64) counts11_c (IntKind.wrap .u64 ((IntKind.wrap .u64 ((1 : Int) * 2 ^ min (Int.toNat (log1.length : Int)) 64)) - (1 : Int)))).getD (0 : Int)) = want0) && decide ((0 : Int) = want1)) (some ())))
theorem wl18c (a41 : Wm0T11) (a49 : Wm0T9) (want0 : Int) (want1 : Int) (N : Nat) (log1 : List UInt8) (o8_a : Wm0T5) (m : Nat) (t56_c : Int) (counts11_c : List (Int × Int)) : R18_2 a41 a49 want0 want1 N (m + 1) (Sl18c log1 o8_a t56_c counts11_c) = cond (decide (t56_c < (log1.length : Int))) ((R18_3 a41 a49 want0 want1 N (R18_2 a41 a49 want0 want1 N m) N (Sl18d log1 o8_a t56_c ([] : List (Int × Int)) counts11_c)))
   (chk (decide (0 ≤ (log1.length : Int))) (chk (decide (((mget (kt := .int .u64) (vt := .int .i64) counts11_c (IntKind.wrap .u64 ((IntKind.wrap .u64 ((1 : Int) * 2 ^ min (Int.toNat (log1.length : Int)) 64)) - (1 : Int)))).getD (0 : Int)) = want0) && decide ((0 : Int) = want1)) (some ()))) := by kernel_rfl
theorem ql18c (a41 : Wm0T11) (a49 : Wm0T9) (want0 : Int) (want1 : Int) (N : Nat) (log1 : List UInt8) (o8_a : Wm0T5) : ∀ (m : Nat) (t56_c : Int) (counts11_c : List (Int × Int)), R18_2 a41 a49 want0 want1 N m (Sl18c log1 o8_a t56_c counts11_c) = l18c a41 a49 want0 want1 N log1 o8_a m t56_c counts11_c
        | 0, _, _ => rfl
        | m + 1, t56_c, counts11_c => by rw [wl18c]; simp only [l18c, ql18d, ql18c a41 a49 want0 want1 N log1 o8_a m]
def l18a (a41 : Wm0T11) (a49 : Wm0T9) (want0 : Int) (want1 : Int) (N : Nat) (log1 : List UInt8) (r1 : List Int × Int) : Nat → Int → (List (List Int)) → Option (Unit)
 | 0, _, _ => none
 | n + 1, t28_a, o8_a => cond (decide (t28_a < (log1.length : Int))) ((l18b a41 a49 want0 want1 N log1 r1 t28_a (fun y0 y1 => (l18a a41 a49 want0 want1 N log1 r1 n y0 y1)) N (0 : Int) o8_a))
   ((l18c a41 a49 want0 want1 N log1 o8_a N (0 : Int) (mput (kt := .int .u64) (vt := .int .i64) ([] : List (Int × Int)) (0 : Int) (1 : Int))))
theorem wl18a (a41 : Wm0T11) (a49 : Wm0T9) (want0 : Int) (want1 : Int) (N : Nat) (log1 : List UInt8) (r1 : List Int × Int) (m : Nat) (t28_a : Int) (o8_a : Wm0T5) : R18_0 a41 a49 want0 want1 N (m + 1) (Sl18a log1 r1 t28_a o8_a) = cond (decide (t28_a < (log1.length : Int))) ((R18_1 a41 a49 want0 want1 N (R18_0 a41 a49 want0 want1 N m) N (Sl18b log1 r1 t28_a (0 : Int) o8_a)))
   ((R18_2 a41 a49 want0 want1 N N (Sl18c log1 o8_a (0 : Int) (mput (kt := .int .u64) (vt := .int .i64) ([] : List (Int × Int)) (0 : Int) (1 : Int))))) := by kernel_rfl
theorem ql18a (a41 : Wm0T11) (a49 : Wm0T9) (want0 : Int) (want1 : Int) (N : Nat) (log1 : List UInt8) (r1 : List Int × Int) : ∀ (m : Nat) (t28_a : Int) (o8_a : Wm0T5), R18_0 a41 a49 want0 want1 N m (Sl18a log1 r1 t28_a o8_a) = l18a a41 a49 want0 want1 N log1 r1 m t28_a o8_a
        | 0, _, _ => rfl
        | m + 1, t28_a, o8_a => by rw [wl18a]; simp only [l18a, ql18b, ql18c, ql18a a41 a49 want0 want1 N log1 r1 m]
def m18 (a41 : Wm0T11) (a49 : Wm0T9) (want0 : Int) (want1 : Int) (N : Nat) (o0 : Wm0T3) (log1 : List UInt8) : Option (Unit) :=
   (a41 o0 ([log1] : List (List UInt8))).bind fun r1 =>
   cond (r1.2 != (0 : Int)) (chk (decide ((0 : Int) = want0) && decide (r1.2 = want1)) (some ()))
   ((l18a a41 a49 want0 want1 N log1 r1 N (0 : Int) ([([(0 : Int), (0 : Int), (0 : Int), (0 : Int), (0 : Int), (0 : Int), (0 : Int), (0 : Int), (0 : Int), (0 : Int), (0 : Int), (0 : Int), (0 : Int), (0 : Int)] : List Int)] : List (List Int))))
theorem wm18 (a41 : Wm0T11) (a49 : Wm0T9) (want0 : Int) (want1 : Int) (N : Nat) (o0 : Wm0T3) (log1 : List UInt8) : callF (E18 a41 a49 want0 want1) lv18 N en18 c18 (resOf Tryd.f18) 99 [.dv (.pair (.int .i64) (.pair (.sl (.arr 2 (.int .i64))) (.unit))) o0, .dv (.str) log1] [] (dec18 want0 want1) = (a41 o0 ([log1] : List (List UInt8))).bind fun r1 =>
   cond (r1.2 != (0 : Int)) (chk (decide ((0 : Int) = want0) && decide (r1.2 = want1)) (some ()))
   ((R18_0 a41 a49 want0 want1 N N (Sl18a log1 r1 (0 : Int) ([([(0 : Int), (0 : Int), (0 : Int), (0 : Int), (0 : Int), (0 : Int), (0 : Int), (0 : Int), (0 : Int), (0 : Int), (0 : Int), (0 : Int), (0 : Int), (0 : Int)] : List Int)] : List (List Int))))) := by kernel_rfl
theorem k18 (a41 : Wm0T11) (a49 : Wm0T9) (want0 : Int) (want1 : Int) (N : Nat) (o0 : Wm0T3) (log1 : List UInt8) : callF (E18 a41 a49 want0 want1) lv18 N en18 c18 (resOf Tryd.f18) 99 [.dv (.pair (.int .i64) (.pair (.sl (.arr 2 (.int .i64))) (.unit))) o0, .dv (.str) log1] [] (dec18 want0 want1) = m18 a41 a49 want0 want1 N o0 log1 := by rw [wm18]; simp only [m18, ql18a]
theorem ok18 (a41 : Wm0T11) (a49 : Wm0T9) (h41 : FnOk Tryd.prog 41 (F41 a41)) (h49 : FnOk Tryd.prog 49 (F49 a49)) (a : (Int × List (List Int) × Unit) → (List UInt8) → Option (Int × Int)) (h : ∀ o0 log1 r, a o0 log1 = some r → ∃ N, m18 a41 a49 r.1 r.2 N o0 log1 = some ()) : FnOk Tryd.prog 18 (F18 a) := by
 intro args Of r hx
 simp only [F18] at hx
 split at hx
 ·rename_i o0 log1
  obtain ⟨N, hN⟩ := h _ _ _ hx
  refine liftedW (L := [(41, F41 a41), (49, F49 a49)]) (rc := nrc) (fz := nfz) (tw := fun i => ([] : List (Nat × Nat)).lookup i) (fn := Tryd.f18) (by kernel_rfl) (by kernel_rfl) (by kernel_rfl) (by kernel_rfl) rfl ?_ ((k18 a41 a49 r.1 r.2 N _ _).trans hN) ?_
  ·intro p hp; simp only [List.mem_cons, List.not_mem_nil, or_false] at hp; rcases hp with rfl | rfl
   ·exact h41
   ·exact h49
  ·intro l o hd
   simp only [dec18] at hd
   split at hd
   ·have hq := (chk_some hd).1
    simp only [Bool.and_eq_true, decide_eq_true_eq] at hq
    obtain ⟨rfl, rfl⟩ := hq
    exact ⟨rfl, rfl⟩
   ·cases hd
 ·cases hx
def E20 (a41 : Wm0T11) (a51 : Wm0T1) : Env := mkE TI TY [(41, F41 a41), (51, F51 a51)] nrc nfz
noncomputable def c20 : Code := bodyOf Tryd.f20
def nm20_0 : Norm := ⟨[1, 3, 10, 12, 13], [10], [], []⟩
def lv20 : Nat → Option Norm := norms [(10, nm20_0)]
def en20 : End := ⟨[], ⟨[75, 76], [], [], []⟩⟩
def dec20 (l : List TV) (o : List (Nat × TO)) : Option (Bool × Int) := match l, o with | [.dv (.bool) x0, .dv (.int .i64) x1], [] => some (x0, x1) | _, _ => none
def Sl20a (log1 : List UInt8) (kx3 : Int) (r1 : List Int × Int) (after12_a : Int) (n13_a : Int) : TS := ⟨slots 75 [(1, .dv (.str) log1), (3, .dv (.int .i64) kx3), (10, .ptr 10 0 []), (12, .dv (.int .u64) after12_a), (13, .dv (.int .i64) n13_a)], [(10, .row (.arr 6 (.int .u64)) ([r1.1] : List (List Int)))]⟩
noncomputable def K20_0 (a41 : Wm0T11) (a51 : Wm0T1) (N : Nat) : Kont (Bool × Int) := kont (E20 a41 a51) lv20 N c20 [1, 1, 1, 1, 0, 1, 0] (fin TI en20 (resOf Tryd.f20) dec20)
noncomputable def R20_0 (a41 : Wm0T11) (a51 : Wm0T1) (N : Nat) (m : Nat) : TS → Option (Bool × Int) := loopK (den (E20 a41 a51) lv20 N (sub c20 [1, 1, 1, 1, 0, 1, 0, 0])) (TS.norm nm20_0) (K20_0 a41 a51 N) m
def l20a (a41 : Wm0T11) (a51 : Wm0T1) (N : Nat) (log1 : List UInt8) (kx3 : Int) (r1 : List Int × Int) : Nat → Int → Int → Option (Bool × Int)
 | 0, _, _ => none
 | n + 1, after12_a, n13_a => cond (decide (n13_a ≤ kx3)) (chk (decide (0 ≤ n13_a ∧ n13_a < (log1.length : Int))) (chk (decide (0 ≤ IntKind.wrap .u8 ((((log1.getD n13_a.toNat 0).toNat : Nat) : Int) - (97 : Int)) ∧ IntKind.wrap .u8 ((((log1.getD n13_a.toNat 0).toNat : Nat) : Int) - (97 : Int)) < (6 : Int))) (cond ((bAnd .u64 (r1.1.getD ((IntKind.wrap .u8 ((((log1.getD n13_a.toNat 0).toNat : Nat) : Int) - (97 : Int))).toNat) (0 : Int)) after12_a) != (0 : Int)) (cond (n13_a == kx3) (some (true, (0 : Int)))
   (chk (decide (0 ≤ n13_a ∧ n13_a < (log1.length : Int))) (chk (decide (0 ≤ IntKind.wrap .u8 ((((log1.getD n13_a.toNat 0).toNat : Nat) : Int) - (97 : Int)))) ((l20a a41 a51 N log1 kx3 r1 n (bOr .u64 after12_a (IntKind.wrap .u64 ((1 : Int) * 2 ^ min (Int.toNat (IntKind.wrap .u8 ((((log1.getD n13_a.toNat 0).toNat : Nat) : Int) - (97 : Int)))) 64))) (w64 (n13_a + (1 : Int))))))))
   ((l20a a41 a51 N log1 kx3 r1 n after12_a (w64 (n13_a + (1 : Int))))))))
   (some (false, (0 : Int)))
theorem wl20a (a41 : Wm0T11) (a51 : Wm0T1) (N : Nat) (log1 : List UInt8) (kx3 : Int) (r1 : List Int × Int) (m : Nat) (after12_a : Int) (n13_a : Int) : R20_0 a41 a51 N (m + 1) (Sl20a log1 kx3 r1 after12_a n13_a) = cond (decide (n13_a ≤ kx3)) (chk (decide (0 ≤ n13_a ∧ n13_a < (log1.length : Int))) (chk (decide (0 ≤ IntKind.wrap .u8 ((((log1.getD n13_a.toNat 0).toNat : Nat) : Int) - (97 : Int)) ∧ IntKind.wrap .u8 ((((log1.getD n13_a.toNat 0).toNat : Nat) : Int) - (97 : Int)) < (6 : Int))) (cond ((bAnd .u64 (r1.1.getD ((IntKind.wrap .u8 ((((log1.getD n13_a.toNat 0).toNat : Nat) : Int) - (97 : Int))).toNat) (0 : Int)) after12_a) != (0 : Int)) (cond (n13_a == kx3) (some (true, (0 : Int)))
   (chk (decide (0 ≤ n13_a ∧ n13_a < (log1.length : Int))) (chk (decide (0 ≤ IntKind.wrap .u8 ((((log1.getD n13_a.toNat 0).toNat : Nat) : Int) - (97 : Int)))) ((R20_0 a41 a51 N m (Sl20a log1 kx3 r1 (bOr .u64 after12_a (IntKind.wrap .u64 ((1 : Int) * 2 ^ min (Int.toNat (IntKind.wrap .u8 ((((log1.getD n13_a.toNat 0).toNat : Nat) : Int) - (97 : Int)))) 64))) (w64 (n13_a + (1 : Int)))))))))
   ((R20_0 a41 a51 N m (Sl20a log1 kx3 r1 after12_a (w64 (n13_a + (1 : Int)))))))))
   (some (false, (0 : Int))) := by kernel_rfl
theorem ql20a (a41 : Wm0T11) (a51 : Wm0T1) (N : Nat) (log1 : List UInt8) (kx3 : Int) (r1 : List Int × Int) : ∀ (m : Nat) (after12_a : Int) (n13_a : Int), R20_0 a41 a51 N m (Sl20a log1 kx3 r1 after12_a n13_a) = l20a a41 a51 N log1 kx3 r1 m after12_a n13_a
        | 0, _, _ => rfl
        | m + 1, after12_a, n13_a => by rw [wl20a]; simp only [l20a, ql20a a41 a51 N log1 kx3 r1 m]
def m20 (a41 : Wm0T11) (a51 : Wm0T1) (N : Nat) (o0 : Wm0T3) (log1 : List UInt8) (i2 : Int) (kx3 : Int) : Option (Bool × Int) :=
   (a41 o0 ([log1] : List (List UInt8))).bind fun r1 =>
   cond (r1.2 != (0 : Int)) (some (false, r1.2))
   ((a51 (0 : Int) i2 (w64 ((log1.length : Int) - (1 : Int)))).bind fun r2 =>
   cond (!r2) (some (false, (5 : Int)))
   ((a51 (0 : Int) kx3 (w64 ((log1.length : Int) - (1 : Int)))).bind fun r3 =>
   cond (!r3) (some (false, (5 : Int)))
   (cond (i2 == kx3) (some (false, (20 : Int)))
   (chk (decide (0 ≤ i2 ∧ i2 < (log1.length : Int))) (chk (decide (0 ≤ IntKind.wrap .u8 ((((log1.getD i2.toNat 0).toNat : Nat) : Int) - (97 : Int)))) ((l20a a41 a51 N log1 kx3 r1 N (IntKind.wrap .u64 ((1 : Int) * 2 ^ min (Int.toNat (IntKind.wrap .u8 ((((log1.getD i2.toNat 0).toNat : Nat) : Int) - (97 : Int)))) 64)) (w64 (i2 + (1 : Int))))))))))
theorem wm20 (a41 : Wm0T11) (a51 : Wm0T1) (N : Nat) (o0 : Wm0T3) (log1 : List UInt8) (i2 : Int) (kx3 : Int) : callF (E20 a41 a51) lv20 N en20 c20 (resOf Tryd.f20) 71 [.dv (.pair (.int .i64) (.pair (.sl (.arr 2 (.int .i64))) (.unit))) o0, .dv (.str) log1, .dv (.int .i64) i2, .dv (.int .i64) kx3] [] dec20 = (a41 o0 ([log1] : List (List UInt8))).bind fun r1 =>
   cond (r1.2 != (0 : Int)) (some (false, r1.2))
   ((a51 (0 : Int) i2 (w64 ((log1.length : Int) - (1 : Int)))).bind fun r2 =>
   cond (!r2) (some (false, (5 : Int)))
   ((a51 (0 : Int) kx3 (w64 ((log1.length : Int) - (1 : Int)))).bind fun r3 =>
   cond (!r3) (some (false, (5 : Int)))
   (cond (i2 == kx3) (some (false, (20 : Int)))
   (chk (decide (0 ≤ i2 ∧ i2 < (log1.length : Int))) (chk (decide (0 ≤ IntKind.wrap .u8 ((((log1.getD i2.toNat 0).toNat : Nat) : Int) - (97 : Int)))) ((R20_0 a41 a51 N N (Sl20a log1 kx3 r1 (IntKind.wrap .u64 ((1 : Int) * 2 ^ min (Int.toNat (IntKind.wrap .u8 ((((log1.getD i2.toNat 0).toNat : Nat) : Int) - (97 : Int)))) 64)) (w64 (i2 + (1 : Int))))))))))) := by kernel_rfl
theorem k20 (a41 : Wm0T11) (a51 : Wm0T1) (N : Nat) (o0 : Wm0T3) (log1 : List UInt8) (i2 : Int) (kx3 : Int) : callF (E20 a41 a51) lv20 N en20 c20 (resOf Tryd.f20) 71 [.dv (.pair (.int .i64) (.pair (.sl (.arr 2 (.int .i64))) (.unit))) o0, .dv (.str) log1, .dv (.int .i64) i2, .dv (.int .i64) kx3] [] dec20 = m20 a41 a51 N o0 log1 i2 kx3 := by rw [wm20]; simp only [m20, ql20a]
theorem ok20 (a41 : Wm0T11) (a51 : Wm0T1) (h41 : FnOk Tryd.prog 41 (F41 a41)) (h51 : FnOk Tryd.prog 51 (F51 a51)) (a : (Int × List (List Int) × Unit) → (List UInt8) → Int → Int → Option (Bool × Int)) (h : ∀ o0 log1 i2 kx3 r, a o0 log1 i2 kx3 = some r → (∃ N, m20 a41 a51 N o0 log1 i2 kx3 = some r)) : FnOk Tryd.prog 20 (F20 a) := by
 intro args Of x hx
 simp only [F20] at hx
 split at hx
 ·rename_i o0 log1 i2 kx3
  obtain ⟨N, hN⟩ := h _ _ _ _ _ hx
  refine lifted (L := [(41, F41 a41), (51, F51 a51)]) (rc := nrc) (fz := nfz) (fn := Tryd.f20) (by kernel_rfl) (by kernel_rfl) (by kernel_rfl) (by kernel_rfl) rfl ?_ ((k20 a41 a51 N _ _ _ _).trans hN) ?_
  ·intro p hp; simp only [List.mem_cons, List.not_mem_nil, or_false] at hp; rcases hp with rfl | rfl
   ·exact h41
   ·exact h51
  ·intro l o hd
   simp only [dec20] at hd
   split at hd
   ·obtain rfl := Option.some.inj hd; exact ⟨rfl, rfl⟩
   ·cases hd
 ·cases hx
def E22 (a41 : Wm0T11) (a42 : Wm0T12) (a43c : Wm0T13) (a53c : Wm0T21) : Env := mkE TI TY [(41, F41 a41), (42, F42 a42), (43, F43c a43c), (53, F53c a53c)] nrc nfz
noncomputable def c22 : Code := bodyOf Tryd.f22
def nm22_0 : Norm := ⟨[1, 10, 29, 30], [1270010, 1270008], [], []⟩
def lv22 : Nat → Option Norm := norms [(6, nm22_0)]
def en22 : End := ⟨[], ⟨[51, 52], [], [], []⟩⟩
def dec22 (l : List TV) (o : List (Nat × TO)) : Option (List UInt8 × Int) := match l, o with | [.dv (.str) x0, .dv (.int .i64) x1], [] => some (x0, x1) | _, _ => none
def Sl22a (ax1 : List UInt8) (t30_a : Int) (o1270010_af0 : List Int) (o1270010_af1 : List UInt8) (o1270008_a : Wm0T7) : TS := ⟨slots 51 [(1, .dv (.str) ax1), (10, .ptr 1270010 0 []), (29, .dv (.int .i64) (ax1.length : Int)), (30, .dv (.int .i64) t30_a)], [(1270010, .rcd [.dv (.arr 6 (.int .u64)) o1270010_af0, .dv (.str) o1270010_af1, .row 1270008]), (1270008, .map (.int .i64) (.bool) o1270008_a)]⟩
noncomputable def K22_0 (a41 : Wm0T11) (a42 : Wm0T12) (a43c : Wm0T13) (a53c : Wm0T21) (N : Nat) : Kont (List UInt8 × Int) := kont (E22 a41 a42 a43c a53c) lv22 N c22 [1, 1, 1, 1, 0, 1, 0] (fin TI en22 (resOf Tryd.f22) dec22)
noncomputable def R22_0 (a41 : Wm0T11) (a42 : Wm0T12) (a43c : Wm0T13) (a53c : Wm0T21) (N : Nat) (m : Nat) : TS → Option (List UInt8 × Int) := loopK (den (E22 a41 a42 a43c a53c) lv22 N (sub c22 [1, 1, 1, 1, 0, 1, 0, 0])) (TS.norm nm22_0) (K22_0 a41 a42 a43c a53c N) m
def l22a (a41 : Wm0T11) (a42 : Wm0T12) (a43c : Wm0T13) (a53c : Wm0T21) (N : Nat) (ax1 : List UInt8) : Nat → Int → (List Int) → (List UInt8) → (List (Int × Bool)) → Option (List UInt8 × Int)
 | 0, _, _, _, _ => none
 | n + 1, t30_a, o1270010_af0, o1270010_af1, o1270008_a => cond (decide (t30_a < (ax1.length : Int))) (chk (decide (0 ≤ t30_a ∧ t30_a < (ax1.length : Int))) ((a53c (((ax1.getD t30_a.toNat 0).toNat : Nat) : Int) o1270010_af0 o1270010_af1 o1270008_a).bind fun r3 =>
   cond (!r3.2.1) (some (([] : List UInt8), (14 : Int)))
   ((l22a a41 a42 a43c a53c N ax1 n (w64 (t30_a + (1 : Int))) r3.2.2.1 r3.2.2.2.1 (mdel (kt := .int .i64) (vt := .bool) r3.2.2.2.2 r3.1)))))
   ((a43c o1270010_af0 o1270010_af1 o1270008_a).bind fun r4 =>
   some (r4.1, (0 : Int)))
theorem wl22a (a41 : Wm0T11) (a42 : Wm0T12) (a43c : Wm0T13) (a53c : Wm0T21) (N : Nat) (ax1 : List UInt8) (m : Nat) (t30_a : Int) (o1270010_af0 : List Int) (o1270010_af1 : List UInt8) (o1270008_a : Wm0T7) : R22_0 a41 a42 a43c a53c N (m + 1) (Sl22a ax1 t30_a o1270010_af0 o1270010_af1 o1270008_a) = cond (decide (t30_a < (ax1.length : Int))) (chk (decide (0 ≤ t30_a ∧ t30_a < (ax1.length : Int))) ((a53c (((ax1.getD t30_a.toNat 0).toNat : Nat) : Int) o1270010_af0 o1270010_af1 o1270008_a).bind fun r3 =>
   cond (!r3.2.1) (some (([] : List UInt8), (14 : Int)))
   ((R22_0 a41 a42 a43c a53c N m (Sl22a ax1 (w64 (t30_a + (1 : Int))) r3.2.2.1 r3.2.2.2.1 (mdel (kt := .int .i64) (vt := .bool) r3.2.2.2.2 r3.1))))))
   ((a43c o1270010_af0 o1270010_af1 o1270008_a).bind fun r4 =>
   some (r4.1, (0 : Int))) := by kernel_rfl
theorem ql22a (a41 : Wm0T11) (a42 : Wm0T12) (a43c : Wm0T13) (a53c : Wm0T21) (N : Nat) (ax1 : List UInt8) : ∀ (m : Nat) (t30_a : Int) (o1270010_af0 : List Int) (o1270010_af1 : List UInt8) (o1270008_a : Wm0T7), R22_0 a41 a42 a43c a53c N m (Sl22a ax1 t30_a o1270010_af0 o1270010_af1 o1270008_a) = l22a a41 a42 a43c a53c N ax1 m t30_a o1270010_af0 o1270010_af1 o1270008_a
        | 0, _, _, _, _ => rfl
        | m + 1, t30_a, o1270010_af0, o1270010_af1, o1270008_a => by rw [wl22a]; simp only [l22a, ql22a a41 a42 a43c a53c N ax1 m]
def m22 (a41 : Wm0T11) (a42 : Wm0T12) (a43c : Wm0T13) (a53c : Wm0T21) (N : Nat) (o0 : Wm0T3) (ax1 : List UInt8) (b2 : List UInt8) : Option (List UInt8 × Int) :=
   (a41 o0 ([ax1, b2] : List (List UInt8))).bind fun r1 =>
   cond (r1.2 != (0 : Int)) (some (([] : List UInt8), r1.2))
   ((a42 r1.1 b2).bind fun r2 =>
   (l22a a41 a42 a43c a53c N ax1 N (0 : Int) r2.2.1 r2.2.2 r2.1))
theorem wm22 (a41 : Wm0T11) (a42 : Wm0T12) (a43c : Wm0T13) (a53c : Wm0T21) (N : Nat) (o0 : Wm0T3) (ax1 : List UInt8) (b2 : List UInt8) : callF (E22 a41 a42 a43c a53c) lv22 N en22 c22 (resOf Tryd.f22) 48 [.dv (.pair (.int .i64) (.pair (.sl (.arr 2 (.int .i64))) (.unit))) o0, .dv (.str) ax1, .dv (.str) b2] [] dec22 = (a41 o0 ([ax1, b2] : List (List UInt8))).bind fun r1 =>
   cond (r1.2 != (0 : Int)) (some (([] : List UInt8), r1.2))
   ((a42 r1.1 b2).bind fun r2 =>
   (R22_0 a41 a42 a43c a53c N N (Sl22a ax1 (0 : Int) r2.2.1 r2.2.2 r2.1))) := by kernel_rfl
theorem k22 (a41 : Wm0T11) (a42 : Wm0T12) (a43c : Wm0T13) (a53c : Wm0T21) (N : Nat) (o0 : Wm0T3) (ax1 : List UInt8) (b2 : List UInt8) : callF (E22 a41 a42 a43c a53c) lv22 N en22 c22 (resOf Tryd.f22) 48 [.dv (.pair (.int .i64) (.pair (.sl (.arr 2 (.int .i64))) (.unit))) o0, .dv (.str) ax1, .dv (.str) b2] [] dec22 = m22 a41 a42 a43c a53c N o0 ax1 b2 := by rw [wm22]; simp only [m22, ql22a]
theorem ok22 (a41 : Wm0T11) (a42 : Wm0T12) (a43c : Wm0T13) (a53c : Wm0T21) (h41 : FnOk Tryd.prog 41 (F41 a41)) (h42 : FnOk Tryd.prog 42 (F42 a42)) (h43c : FnOk Tryd.prog 43 (F43c a43c)) (h53c : FnOk Tryd.prog 53 (F53c a53c)) (a : (Int × List (List Int) × Unit) → (List UInt8) → (List UInt8) → Option (List UInt8 × Int)) (h : ∀ o0 ax1 b2 r, a o0 ax1 b2 = some r → (∃ N, m22 a41 a42 a43c a53c N o0 ax1 b2 = some r)) : FnOk Tryd.prog 22 (F22 a) := by
 intro args Of x hx
 simp only [F22] at hx
 split at hx
 ·rename_i o0 ax1 b2
  obtain ⟨N, hN⟩ := h _ _ _ _ hx
  refine lifted (L := [(41, F41 a41), (42, F42 a42), (43, F43c a43c), (53, F53c a53c)]) (rc := nrc) (fz := nfz) (fn := Tryd.f22) (by kernel_rfl) (by kernel_rfl) (by kernel_rfl) (by kernel_rfl) rfl ?_ ((k22 a41 a42 a43c a53c N _ _ _).trans hN) ?_
  ·intro p hp; simp only [List.mem_cons, List.not_mem_nil, or_false] at hp; rcases hp with rfl | rfl | rfl | rfl
   ·exact h41
   ·exact h42
   ·exact h43c
   ·exact h53c
  ·intro l o hd
   simp only [dec22] at hd
   split at hd
   ·obtain rfl := Option.some.inj hd; exact ⟨rfl, rfl⟩
   ·cases hd
 ·cases hx
def E70 : Env := mkE TI TY [] nrc nfz
noncomputable def c70 : Code := bodyOf Tryd.f70
def lv70 : Nat → Option Norm := norms []
def en70 : End := ⟨[], ⟨[14], [], [], []⟩⟩
def dec70 (l : List TV) (o : List (Nat × TO)) : Option (Int) := match l, o with | [.dv (.int .i64) x0], [] => some (x0) | _, _ => none
def m70 (N : Nat) (x0 : Int) : Option (Int) :=
   cond (x0 == (0 : Int)) (some (64 : Int))
   (chk (decide (0 ≤ Int.fdiv (IntKind.wrap .u64 ((bAnd .u64 x0 (IntKind.wrap .u64 (0 - x0))) * (285870213051353865 : Int))) (2 ^ min (Int.toNat (58 : Int)) 64) ∧ Int.fdiv (IntKind.wrap .u64 ((bAnd .u64 x0 (IntKind.wrap .u64 (0 - x0))) * (285870213051353865 : Int))) (2 ^ min (Int.toNat (58 : Int)) 64) < (64 : Int))) (some (w64 (([(0 : Int), (1 : Int), (56 : Int), (2 : Int), (57 : Int), (49 : Int), (28 : Int), (3 : Int), (61 : Int), (58 : Int), (42 : Int), (50 : Int), (38 : Int), (29 : Int), (17 : Int), (4 : Int), (62 : Int), (47 : Int), (59 : Int), (36 : Int), (45 : Int), (43 : Int), (51 : Int), (22 : Int), (53 : Int), (39 : Int), (33 : Int), (30 : Int), (24 : Int), (18 : Int), (12 : Int), (5 : Int), (63 : Int), (55 : Int), (48 : Int), (27 : Int), (60 : Int), (41 : Int), (37 : Int), (16 : Int), (46 : Int), (35 : Int), (44 : Int), (21 : Int), (52 : Int), (32 : Int), (23 : Int), (11 : Int), (54 : Int), (26 : Int), (40 : Int), (15 : Int), (34 : Int), (20 : Int), (31 : Int), (10 : Int), (25 : Int), (14 : Int), (19 : Int), (9 : Int), (13 : Int), (8 : Int), (7 : Int), (6 : Int)] : List Int).getD ((Int.fdiv (IntKind.wrap .u64 ((bAnd .u64 x0 (IntKind.wrap .u64 (0 - x0))) * (285870213051353865 : Int))) (2 ^ min (Int.toNat (58 : Int)) 64)).toNat) (0 : Int)))))
def regOps (c : Code) : Array Oper := match c with | .region _ ops _ => ops | _ => #[]
def putC : Code → List Nat → Code → Code
 | .seq a b, 0 :: p, r => .seq (putC a p r) b
 | .seq a b, _ :: p, r => .seq a (putC b p r)
 | _, _, r => r
theorem rops_app {α : Type} [Jn α] (E : Env) (ops : Array Oper) : ∀ (l1 l2 : List Oper) (s : TS) (k : TS → Option α), rops E ops (l1 ++ l2) s k = rops E ops l1 s (fun s' => rops E ops l2 s' k)
 | [], l2, s, k => rfl
 | o :: r, l2, s, k => by
  have ih := fun (s : TS) (k : TS → Option α) => rops_app E ops r l2 s k
  simp only [List.cons_append, rops, ih]
def S6z (x0 y7 y8 y9 z : Int) : TS := ⟨[.dv (.int .u64) x0, .any, .dv (.int .i64) (0 : Int), .dv (.int .u64) x0, .dv (.bool) false, .dv (.int .u64) x0, .dv (.int .u64) x0, .dv (.int .u64) y7, .dv (.int .u64) y8, .dv (.int .u64) y9, .dv (.int .u64) z, .any, .any, .any], []⟩
noncomputable def K70 (N : Nat) : TS → Option Int := fun s' => kont E70 lv70 N c70 [1, 1, 0] (fin TI en70 (resOf Tryd.f70) dec70) .normal s'
theorem k70a (x0 : Int) (k : TS → Option Int) : rops E70 (regOps (sub c70 [1, 1, 0])) ((regOps (sub c70 [1, 1, 0])).toList.take 6) ⟨[.dv (.int .u64) x0, .any, .dv (.int .i64) (0 : Int), .dv (.int .u64) x0, .dv (.bool) false, .any, .any, .any, .any, .any, .any, .any, .any, .any], []⟩ k = k (S6z x0 (IntKind.wrap .u64 (0 - x0)) (bAnd .u64 x0 (IntKind.wrap .u64 (0 - x0))) (IntKind.wrap .u64 ((bAnd .u64 x0 (IntKind.wrap .u64 (0 - x0))) * (285870213051353865 : Int))) (Int.fdiv (IntKind.wrap .u64 ((bAnd .u64 x0 (IntKind.wrap .u64 (0 - x0))) * (285870213051353865 : Int))) (2 ^ min (Int.toNat (58 : Int)) 64))) := by kernel_rfl
theorem k70b (N : Nat) (x0 y7 y8 y9 z : Int) : rops E70 (regOps (sub c70 [1, 1, 0])) ((regOps (sub c70 [1, 1, 0])).toList.drop 6) (S6z x0 y7 y8 y9 z) (K70 N) = chk (decide (0 ≤ z ∧ z < (64 : Int))) (some (w64 (([(0 : Int), (1 : Int), (56 : Int), (2 : Int), (57 : Int), (49 : Int), (28 : Int), (3 : Int), (61 : Int), (58 : Int), (42 : Int), (50 : Int), (38 : Int), (29 : Int), (17 : Int), (4 : Int), (62 : Int), (47 : Int), (59 : Int), (36 : Int), (45 : Int), (43 : Int), (51 : Int), (22 : Int), (53 : Int), (39 : Int), (33 : Int), (30 : Int), (24 : Int), (18 : Int), (12 : Int), (5 : Int), (63 : Int), (55 : Int), (48 : Int), (27 : Int), (60 : Int), (41 : Int), (37 : Int), (16 : Int), (46 : Int), (35 : Int), (44 : Int), (21 : Int), (52 : Int), (32 : Int), (23 : Int), (11 : Int), (54 : Int), (26 : Int), (40 : Int), (15 : Int), (34 : Int), (20 : Int), (31 : Int), (10 : Int), (25 : Int), (14 : Int), (19 : Int), (9 : Int), (13 : Int), (8 : Int), (7 : Int), (6 : Int)] : List Int).getD (z.toNat) (0 : Int)))) := by kernel_rfl
theorem k70d : c70 = putC c70 [1, 1, 0] (sub c70 [1, 1, 0]) := by kernel_rfl
theorem k70e (N : Nat) (x0 : Int) (r : Code) : callF (E70) lv70 N en70 (putC c70 [1, 1, 0] r) (resOf Tryd.f70) 13 [.dv (.int .u64) x0] [] dec70 = cond (x0 == (0 : Int)) (some (64 : Int)) (denP E70 lv70 N r [] ⟨[.dv (.int .u64) x0, .any, .dv (.int .i64) (0 : Int), .dv (.int .u64) x0, .dv (.bool) false, .any, .any, .any, .any, .any, .any, .any, .any, .any], []⟩ (fun e s' => kont E70 lv70 N c70 [1, 1, 0] (fin TI en70 (resOf Tryd.f70) dec70) e s')) := by kernel_rfl
theorem k70f (id : Nat) (ops : Array Oper) (N : Nat) (s : TS) (k : Kont Int) (h : lv70 (1000000 + id) = none) : denP E70 lv70 N (.region id ops false) [] s k = rops E70 ops ops.toList s (fun s' => k .normal s') := by
 simp only [denP, preR, h, cond_false]
theorem k70g : sub c70 [1, 1, 0] = .region 3 (regOps (sub c70 [1, 1, 0])) false := by kernel_rfl
theorem k70 (N : Nat) (x0 : Int) : callF (E70) lv70 N en70 c70 (resOf Tryd.f70) 13 [.dv (.int .u64) x0] [] dec70 = m70 N x0 := by
 rw [k70d, k70e, k70g, k70f 3 _ _ _ _ (by kernel_rfl), ← List.take_append_drop 6 (regOps (sub c70 [1, 1, 0])).toList, rops_app, k70a]
 rw [show (fun s' => kont E70 lv70 N c70 [1, 1, 0] (fin TI en70 (resOf Tryd.f70) dec70) .normal s') = K70 N from rfl, k70b]
 rfl
theorem ok70 (a : Int → Option (Int)) (h : ∀ x0 r, a x0 = some r → (∃ N, m70 N x0 = some r)) : FnOk Tryd.prog 70 (F70 a) := by
 intro args Of x hx
 simp only [F70] at hx
 split at hx
 ·rename_i x0
  obtain ⟨N, hN⟩ := h _ _ hx
  refine lifted (L := []) (rc := nrc) (fz := nfz) (fn := Tryd.f70) (by kernel_rfl) (by kernel_rfl) (by kernel_rfl) (by kernel_rfl) rfl ?_ ((k70 N _).trans hN) ?_
  ·intro p hp; cases hp
  ·intro l o hd
   simp only [dec70] at hd
   split at hd
   ·obtain rfl := Option.some.inj hd; exact ⟨rfl, rfl⟩
   ·cases hd
 ·cases hx
def E56 (a70 : Wm0T16) : Env := mkE TI TY [(70, F70 a70)] nrc nfz
noncomputable def c56 : Code := bodyOf Tryd.f56
def lv56 : Nat → Option Norm := norms []
def en56 : End := ⟨[], ⟨[8], [], [], []⟩⟩
def dec56 (l : List TV) (o : List (Nat × TO)) : Option (Int) := match l, o with | [.dv (.int .i64) x0], [] => some (x0) | _, _ => none
def m56 (a70 : Wm0T16) (N : Nat) (x0 : Int) : Option (Int) :=
   (a70 x0).bind fun r1 =>
   some r1
theorem k56 (a70 : Wm0T16) (N : Nat) (x0 : Int) : callF (E56 a70) lv56 N en56 c56 (resOf Tryd.f56) 7 [.dv (.int .u64) x0] [] dec56 = m56 a70 N x0 := by kernel_rfl
theorem ok56 (a70 : Wm0T16) (h70 : FnOk Tryd.prog 70 (F70 a70)) (a : Int → Option (Int)) (h : ∀ x0 r, a x0 = some r → (∃ N, m56 a70 N x0 = some r)) : FnOk Tryd.prog 56 (F56 a) := by
 intro args Of x hx
 simp only [F56] at hx
 split at hx
 ·rename_i x0
  obtain ⟨N, hN⟩ := h _ _ hx
  refine lifted (L := [(70, F70 a70)]) (rc := nrc) (fz := nfz) (fn := Tryd.f56) (by kernel_rfl) (by kernel_rfl) (by kernel_rfl) (by kernel_rfl) rfl ?_ ((k56 a70 N _).trans hN) ?_
  ·intro p hp; simp only [List.mem_cons, List.not_mem_nil, or_false] at hp; rcases hp with rfl; exact h70
  ·intro l o hd
   simp only [dec56] at hd
   split at hd
   ·obtain rfl := Option.some.inj hd; exact ⟨rfl, rfl⟩
   ·cases hd
 ·cases hx
def E24 (a41 : Wm0T11) (a42 : Wm0T12) (a43c : Wm0T13) (a53c : Wm0T21) (a56 : Wm0T16) : Env := mkE TI TY [(41, F41 a41), (42, F42 a42), (43, F43c a43c), (53, F53c a53c), (56, F56 a56)] nrc nfz
noncomputable def c24 : Code := bodyOf Tryd.f24
def nm24_0 : Norm := ⟨[3, 8, 10, 11, 13], [3, 8, 1320010, 1350010, 1320008, 1350008], [(.slot 12, 1012, .int .u8)], []⟩
def lv24 : Nat → Option Norm := norms [(7, nm24_0)]
def en24 : End := ⟨[], ⟨[91, 92], [], [], []⟩⟩
def dec24 (l : List TV) (o : List (Nat × TO)) : Option (List UInt8 × Int) := match l, o with | [.dv (.str) x0, .dv (.int .i64) x1], [] => some (x0, x1) | _, _ => none
def Sl24a (o0 : Wm0T3) (r1 : List Int × Int) (kinds13_a : Int) (out12_a : List Int) (o1320010_af0 : List Int) (o1320010_af1 : List UInt8) (o1350010_af0 : List Int) (o1350010_af1 : List UInt8) (o1320008_a : Wm0T7) (o1350008_a : Wm0T7) : TS := ⟨slots 91 [(3, .ptr 3 0 []), (8, .ptr 8 0 []), (10, .ptr 1320010 0 []), (11, .ptr 1350010 0 []), (12, .row 1012), (13, .dv (.int .u64) kinds13_a)], [(1012, .row (.int .u8) out12_a), (3, .row (.pair (.int .i64) (.pair (.sl (.arr 2 (.int .i64))) (.unit))) ([o0] : List (Int × List (List Int) × Unit))), (8, .row (.arr 6 (.int .u64)) ([r1.1] : List (List Int))), (1320010, .rcd [.dv (.arr 6 (.int .u64)) o1320010_af0, .dv (.str) o1320010_af1, .row 1320008]), (1350010, .rcd [.dv (.arr 6 (.int .u64)) o1350010_af0, .dv (.str) o1350010_af1, .row 1350008]), (1320008, .map (.int .i64) (.bool) o1320008_a), (1350008, .map (.int .i64) (.bool) o1350008_a)]⟩
noncomputable def K24_0 (a41 : Wm0T11) (a42 : Wm0T12) (a43c : Wm0T13) (a53c : Wm0T21) (a56 : Wm0T16) (N : Nat) : Kont (List UInt8 × Int) := kont (E24 a41 a42 a43c a53c a56) lv24 N c24 [1, 1, 1, 1, 1, 0, 1, 0] (fin TI en24 (resOf Tryd.f24) dec24)
noncomputable def R24_0 (a41 : Wm0T11) (a42 : Wm0T12) (a43c : Wm0T13) (a53c : Wm0T21) (a56 : Wm0T16) (N : Nat) (m : Nat) : TS → Option (List UInt8 × Int) := loopK (den (E24 a41 a42 a43c a53c a56) lv24 N (sub c24 [1, 1, 1, 1, 1, 0, 1, 0, 0])) (TS.norm nm24_0) (K24_0 a41 a42 a43c a53c a56 N) m
def l24a (a41 : Wm0T11) (a42 : Wm0T12) (a43c : Wm0T13) (a53c : Wm0T21) (a56 : Wm0T16) (N : Nat) (o0 : Wm0T3) (r1 : List Int × Int) : Nat → Int → (List Int) → (List Int) → (List UInt8) → (List Int) → (List UInt8) → (List (Int × Bool)) → (List (Int × Bool)) → Option (List UInt8 × Int)
 | 0, _, _, _, _, _, _, _, _ => none
 | n + 1, kinds13_a, out12_a, o1320010_af0, o1320010_af1, o1350010_af0, o1350010_af1, o1320008_a, o1350008_a => cond (kinds13_a != (0 : Int)) ((a56 kinds13_a).bind fun r4 =>
   (a53c (IntKind.wrap .u8 (w64 ((97 : Int) + r4))) o1320010_af0 o1320010_af1 o1320008_a).bind fun r5 =>
   (a53c (IntKind.wrap .u8 (w64 ((97 : Int) + r4))) o1350010_af0 o1350010_af1 o1350008_a).bind fun r6 =>
   cond (!r5.2.1) ((l24a a41 a42 a43c a53c a56 N o0 r1 n (bAnd .u64 kinds13_a (IntKind.wrap .u64 (kinds13_a - (1 : Int)))) out12_a r5.2.2.1 r5.2.2.2.1 r6.2.2.1 r6.2.2.2.1 r5.2.2.2.2 r6.2.2.2.2))
   (cond (!r6.2.1) ((l24a a41 a42 a43c a53c a56 N o0 r1 n (bAnd .u64 kinds13_a (IntKind.wrap .u64 (kinds13_a - (1 : Int)))) out12_a r5.2.2.1 r5.2.2.2.1 r6.2.2.1 r6.2.2.2.1 r5.2.2.2.2 r6.2.2.2.2))
   (chk (small (out12_a.length + 1) 1) (chk (decide (0 ≤ o0.1)) ((l24a a41 a42 a43c a53c a56 N o0 r1 n (IntKind.wrap .u64 ((IntKind.wrap .u64 ((1 : Int) * 2 ^ min (Int.toNat o0.1) 64)) - (1 : Int))) (out12_a ++ ([IntKind.wrap .u8 (w64 ((97 : Int) + r4))] : List Int)) r5.2.2.1 r5.2.2.2.1 r6.2.2.1 r6.2.2.2.1 (mdel (kt := .int .i64) (vt := .bool) r5.2.2.2.2 r5.1) (mdel (kt := .int .i64) (vt := .bool) r6.2.2.2.2 r6.1)))))))
   ((a42 r1.1 (toBytes out12_a)).bind fun r7 =>
   (a43c r7.2.1 r7.2.2 r7.1).bind fun r8 =>
   some (r8.1, (0 : Int)))
theorem wl24a (a41 : Wm0T11) (a42 : Wm0T12) (a43c : Wm0T13) (a53c : Wm0T21) (a56 : Wm0T16) (N : Nat) (o0 : Wm0T3) (r1 : List Int × Int) (m : Nat) (kinds13_a : Int) (out12_a : List Int) (o1320010_af0 : List Int) (o1320010_af1 : List UInt8) (o1350010_af0 : List Int) (o1350010_af1 : List UInt8) (o1320008_a : Wm0T7) (o1350008_a : Wm0T7) : R24_0 a41 a42 a43c a53c a56 N (m + 1) (Sl24a o0 r1 kinds13_a out12_a o1320010_af0 o1320010_af1 o1350010_af0 o1350010_af1 o1320008_a o1350008_a) = cond (kinds13_a != (0 : Int)) ((a56 kinds13_a).bind fun r4 =>
   (a53c (IntKind.wrap .u8 (w64 ((97 : Int) + r4))) o1320010_af0 o1320010_af1 o1320008_a).bind fun r5 =>
   (a53c (IntKind.wrap .u8 (w64 ((97 : Int) + r4))) o1350010_af0 o1350010_af1 o1350008_a).bind fun r6 =>
   cond (!r5.2.1) ((R24_0 a41 a42 a43c a53c a56 N m (Sl24a o0 r1 (bAnd .u64 kinds13_a (IntKind.wrap .u64 (kinds13_a - (1 : Int)))) out12_a r5.2.2.1 r5.2.2.2.1 r6.2.2.1 r6.2.2.2.1 r5.2.2.2.2 r6.2.2.2.2)))
   (cond (!r6.2.1) ((R24_0 a41 a42 a43c a53c a56 N m (Sl24a o0 r1 (bAnd .u64 kinds13_a (IntKind.wrap .u64 (kinds13_a - (1 : Int)))) out12_a r5.2.2.1 r5.2.2.2.1 r6.2.2.1 r6.2.2.2.1 r5.2.2.2.2 r6.2.2.2.2)))
   (chk (small (out12_a.length + 1) 1) (chk (decide (0 ≤ o0.1)) ((R24_0 a41 a42 a43c a53c a56 N m (Sl24a o0 r1 (IntKind.wrap .u64 ((IntKind.wrap .u64 ((1 : Int) * 2 ^ min (Int.toNat o0.1) 64)) - (1 : Int))) (out12_a ++ ([IntKind.wrap .u8 (w64 ((97 : Int) + r4))] : List Int)) r5.2.2.1 r5.2.2.2.1 r6.2.2.1 r6.2.2.2.1 (mdel (kt := .int .i64) (vt := .bool) r5.2.2.2.2 r5.1) (mdel (kt := .int .i64) (vt := .bool) r6.2.2.2.2 r6.1))))))))
   ((a42 r1.1 (toBytes out12_a)).bind fun r7 =>
   (a43c r7.2.1 r7.2.2 r7.1).bind fun r8 =>
   some (r8.1, (0 : Int))) := by kernel_rfl
theorem ql24a (a41 : Wm0T11) (a42 : Wm0T12) (a43c : Wm0T13) (a53c : Wm0T21) (a56 : Wm0T16) (N : Nat) (o0 : Wm0T3) (r1 : List Int × Int) : ∀ (m : Nat) (kinds13_a : Int) (out12_a : List Int) (o1320010_af0 : List Int) (o1320010_af1 : List UInt8) (o1350010_af0 : List Int) (o1350010_af1 : List UInt8) (o1320008_a : Wm0T7) (o1350008_a : Wm0T7), R24_0 a41 a42 a43c a53c a56 N m (Sl24a o0 r1 kinds13_a out12_a o1320010_af0 o1320010_af1 o1350010_af0 o1350010_af1 o1320008_a o1350008_a) = l24a a41 a42 a43c a53c a56 N o0 r1 m kinds13_a out12_a o1320010_af0 o1320010_af1 o1350010_af0 o1350010_af1 o1320008_a o1350008_a
        | 0, _, _, _, _, _, _, _, _ => rfl
        | m + 1, kinds13_a, out12_a, o1320010_af0, o1320010_af1, o1350010_af0, o1350010_af1, o1320008_a, o1350008_a => by rw [wl24a]; simp only [l24a, ql24a a41 a42 a43c a53c a56 N o0 r1 m]
def m24 (a41 : Wm0T11) (a42 : Wm0T12) (a43c : Wm0T13) (a53c : Wm0T21) (a56 : Wm0T16) (N : Nat) (o0 : Wm0T3) (ax1 : List UInt8) (b2 : List UInt8) : Option (List UInt8 × Int) :=
   (a41 o0 ([ax1, b2] : List (List UInt8))).bind fun r1 =>
   cond (r1.2 != (0 : Int)) (some (([] : List UInt8), r1.2))
   ((a42 r1.1 ax1).bind fun r2 =>
   (a42 r1.1 b2).bind fun r3 =>
   chk (decide (0 ≤ o0.1)) ((l24a a41 a42 a43c a53c a56 N o0 r1 N (IntKind.wrap .u64 ((IntKind.wrap .u64 ((1 : Int) * 2 ^ min (Int.toNat o0.1) 64)) - (1 : Int))) ([] : List Int) r2.2.1 r2.2.2 r3.2.1 r3.2.2 r2.1 r3.1)))
theorem wm24 (a41 : Wm0T11) (a42 : Wm0T12) (a43c : Wm0T13) (a53c : Wm0T21) (a56 : Wm0T16) (N : Nat) (o0 : Wm0T3) (ax1 : List UInt8) (b2 : List UInt8) : callF (E24 a41 a42 a43c a53c a56) lv24 N en24 c24 (resOf Tryd.f24) 88 [.dv (.pair (.int .i64) (.pair (.sl (.arr 2 (.int .i64))) (.unit))) o0, .dv (.str) ax1, .dv (.str) b2] [] dec24 = (a41 o0 ([ax1, b2] : List (List UInt8))).bind fun r1 =>
   cond (r1.2 != (0 : Int)) (some (([] : List UInt8), r1.2))
   ((a42 r1.1 ax1).bind fun r2 =>
   (a42 r1.1 b2).bind fun r3 =>
   chk (decide (0 ≤ o0.1)) ((R24_0 a41 a42 a43c a53c a56 N N (Sl24a o0 r1 (IntKind.wrap .u64 ((IntKind.wrap .u64 ((1 : Int) * 2 ^ min (Int.toNat o0.1) 64)) - (1 : Int))) ([] : List Int) r2.2.1 r2.2.2 r3.2.1 r3.2.2 r2.1 r3.1)))) := by kernel_rfl
theorem k24 (a41 : Wm0T11) (a42 : Wm0T12) (a43c : Wm0T13) (a53c : Wm0T21) (a56 : Wm0T16) (N : Nat) (o0 : Wm0T3) (ax1 : List UInt8) (b2 : List UInt8) : callF (E24 a41 a42 a43c a53c a56) lv24 N en24 c24 (resOf Tryd.f24) 88 [.dv (.pair (.int .i64) (.pair (.sl (.arr 2 (.int .i64))) (.unit))) o0, .dv (.str) ax1, .dv (.str) b2] [] dec24 = m24 a41 a42 a43c a53c a56 N o0 ax1 b2 := by rw [wm24]; simp only [m24, ql24a]
theorem ok24 (a41 : Wm0T11) (a42 : Wm0T12) (a43c : Wm0T13) (a53c : Wm0T21) (a56 : Wm0T16) (h41 : FnOk Tryd.prog 41 (F41 a41)) (h42 : FnOk Tryd.prog 42 (F42 a42)) (h43c : FnOk Tryd.prog 43 (F43c a43c)) (h53c : FnOk Tryd.prog 53 (F53c a53c)) (h56 : FnOk Tryd.prog 56 (F56 a56)) (a : (Int × List (List Int) × Unit) → (List UInt8) → (List UInt8) → Option (List UInt8 × Int)) (h : ∀ o0 ax1 b2 r, a o0 ax1 b2 = some r → (∃ N, m24 a41 a42 a43c a53c a56 N o0 ax1 b2 = some r)) : FnOk Tryd.prog 24 (F24 a) := by
 intro args Of x hx
 simp only [F24] at hx
 split at hx
 ·rename_i o0 ax1 b2
  obtain ⟨N, hN⟩ := h _ _ _ _ hx
  refine lifted (L := [(41, F41 a41), (42, F42 a42), (43, F43c a43c), (53, F53c a53c), (56, F56 a56)]) (rc := nrc) (fz := nfz) (fn := Tryd.f24) (by kernel_rfl) (by kernel_rfl) (by kernel_rfl) (by kernel_rfl) rfl ?_ ((k24 a41 a42 a43c a53c a56 N _ _ _).trans hN) ?_
  ·intro p hp; simp only [List.mem_cons, List.not_mem_nil, or_false] at hp; rcases hp with rfl | rfl | rfl | rfl | rfl
   ·exact h41
   ·exact h42
   ·exact h43c
   ·exact h53c
   ·exact h56
  ·intro l o hd
   simp only [dec24] at hd
   split at hd
   ·obtain rfl := Option.some.inj hd; exact ⟨rfl, rfl⟩
   ·cases hd
 ·cases hx
def E58 (a72c71 : Wm0T22) : Env := mkE TI TY [(72, F72c71 a72c71)] nrc nfz
noncomputable def c58 : Code := bodyOf Tryd.f58
def nm58_0 : Norm := ⟨[2, 3, 4, 5, 15, 16], [4, 5], [], []⟩
def nm58_1 : Norm := ⟨[2, 3, 4, 5, 11, 12, 15, 16], [4, 5, 12], [], []⟩
def lv58 : Nat → Option Norm := norms [(2, nm58_0), (5, nm58_1), (1000004, ⟨[], [11], [], []⟩), (1000007, ⟨[], [12], [], []⟩)]
def en58 : End := ⟨[], ⟨[45, 46, 47], [], [], []⟩⟩
def dec58 (l : List TV) (o : List (Nat × TO)) : Option (Int × Int × Bool) := match l, o with | [.dv (.int .i64) x0, .dv (.int .i64) x1, .dv (.bool) x2], [] => some (x0, x1, x2) | _, _ => none
def Sl58b (d0 : List Int) (o1 : Wm0T3) (ax2 : List UInt8) (b3 : List UInt8) (t16_a : Int) (o12_bf0 : Int) : TS := ⟨slots 45 [(2, .dv (.str) ax2), (3, .dv (.str) b3), (4, .ptr 4 0 []), (5, .ptr 5 0 []), (11, .el (.int .i64) t16_a []), (12, .ptr 12 0 [0]), (15, .dv (.int .i64) o1.1), (16, .dv (.int .i64) t16_a)], [(4, .row (.arr 6 (.int .u64)) ([d0] : List (List Int))), (5, .row (.pair (.int .i64) (.pair (.sl (.arr 2 (.int .i64))) (.unit))) ([o1] : List (Int × List (List Int) × Unit))), (12, .rcd [.dv (.int .i64) o12_bf0])]⟩
def Sl58a (d0 : List Int) (o1 : Wm0T3) (ax2 : List UInt8) (b3 : List UInt8) (t16_a : Int) : TS := ⟨slots 45 [(2, .dv (.str) ax2), (3, .dv (.str) b3), (4, .ptr 4 0 []), (5, .ptr 5 0 []), (15, .dv (.int .i64) o1.1), (16, .dv (.int .i64) t16_a)], [(4, .row (.arr 6 (.int .u64)) ([d0] : List (List Int))), (5, .row (.pair (.int .i64) (.pair (.sl (.arr 2 (.int .i64))) (.unit))) ([o1] : List (Int × List (List Int) × Unit)))]⟩
noncomputable def K58_0 (a72c71 : Wm0T22) (N : Nat) : Kont (Int × Int × Bool) := kont (E58 a72c71) lv58 N c58 [1, 0, 1, 0] (fin TI en58 (resOf Tryd.f58) dec58)
noncomputable def R58_0 (a72c71 : Wm0T22) (N : Nat) (m : Nat) : TS → Option (Int × Int × Bool) := loopK (den (E58 a72c71) lv58 N (sub c58 [1, 0, 1, 0, 0])) (TS.norm nm58_0) (K58_0 a72c71 N) m
noncomputable def K58_1 (a72c71 : Wm0T22) (N : Nat) (T58_0 : TS → Option (Int × Int × Bool)) : Kont (Int × Int × Bool) := kont (E58 a72c71) lv58 N (sub c58 [1, 0, 1, 0, 0]) [1, 1, 0, 0, 1, 1, 0] (kloop (TS.norm nm58_0) (K58_0 a72c71 N) T58_0)
noncomputable def R58_1 (a72c71 : Wm0T22) (N : Nat) (T58_0 : TS → Option (Int × Int × Bool)) (m : Nat) : TS → Option (Int × Int × Bool) := loopK (den (E58 a72c71) lv58 N (sub c58 [1, 0, 1, 0, 0, 1, 1, 0, 0, 1, 1, 0, 0])) (TS.norm nm58_1) (K58_1 a72c71 N T58_0) m
def l58b (a72c71 : Wm0T22) (N : Nat) (d0 : List Int) (o1 : Wm0T3) (ax2 : List UInt8) (b3 : List UInt8) (t16_a : Int) (rec_l58a : Int → Option (Int × Int × Bool)) : Nat → Int → Option (Int × Int × Bool)
 | 0, _ => none
 | n + 1, o12_bf0 => cond (decide (o12_bf0 < o1.1)) (chk (decide (0 ≤ t16_a ∧ t16_a < (6 : Int))) (chk (decide (0 ≤ o12_bf0)) (cond ((bAnd .u64 (Int.fdiv (d0.getD t16_a.toNat (0 : Int)) (2 ^ min (Int.toNat o12_bf0) 64)) (1 : Int)) == (0 : Int)) ((l58b a72c71 N d0 o1 ax2 b3 t16_a rec_l58a n (w64 (o12_bf0 + (1 : Int)))))
   ((a72c71 t16_a o12_bf0 ax2).bind fun r1 =>
   (a72c71 t16_a o12_bf0 b3).bind fun r2 =>
   cond (!(r1 == r2)) (some (t16_a, o12_bf0, true))
   ((l58b a72c71 N d0 o1 ax2 b3 t16_a rec_l58a n (w64 (o12_bf0 + (1 : Int)))))))))
   ((rec_l58a (w64 (t16_a + (1 : Int)))))
theorem wl58b (a72c71 : Wm0T22) (N : Nat) (d0 : List Int) (o1 : Wm0T3) (ax2 : List UInt8) (b3 : List UInt8) (t16_a : Int) (T58_0 : TS → Option (Int × Int × Bool)) (m : Nat) (o12_bf0 : Int) : R58_1 a72c71 N T58_0 (m + 1) (Sl58b d0 o1 ax2 b3 t16_a o12_bf0) = cond (decide (o12_bf0 < o1.1)) (chk (decide (0 ≤ t16_a ∧ t16_a < (6 : Int))) (chk (decide (0 ≤ o12_bf0)) (cond ((bAnd .u64 (Int.fdiv (d0.getD t16_a.toNat (0 : Int)) (2 ^ min (Int.toNat o12_bf0) 64)) (1 : Int)) == (0 : Int)) ((R58_1 a72c71 N T58_0 m (Sl58b d0 o1 ax2 b3 t16_a (w64 (o12_bf0 + (1 : Int))))))
   ((a72c71 t16_a o12_bf0 ax2).bind fun r1 =>
   (a72c71 t16_a o12_bf0 b3).bind fun r2 =>
   cond (!(r1 == r2)) (some (t16_a, o12_bf0, true))
   ((R58_1 a72c71 N T58_0 m (Sl58b d0 o1 ax2 b3 t16_a (w64 (o12_bf0 + (1 : Int))))))))))
   ((T58_0 (Sl58a d0 o1 ax2 b3 (w64 (t16_a + (1 : Int)))))) := by kernel_rfl
theorem ql58b (a72c71 : Wm0T22) (N : Nat) (d0 : List Int) (o1 : Wm0T3) (ax2 : List UInt8) (b3 : List UInt8) (t16_a : Int) (T58_0 : TS → Option (Int × Int × Bool)) : ∀ (m : Nat) (o12_bf0 : Int), R58_1 a72c71 N T58_0 m (Sl58b d0 o1 ax2 b3 t16_a o12_bf0) = l58b a72c71 N d0 o1 ax2 b3 t16_a (fun y0 => T58_0 (Sl58a d0 o1 ax2 b3 y0)) m o12_bf0
        | 0, _ => rfl
        | m + 1, o12_bf0 => by rw [wl58b]; simp only [l58b, ql58b a72c71 N d0 o1 ax2 b3 t16_a T58_0 m]
def l58a (a72c71 : Wm0T22) (N : Nat) (d0 : List Int) (o1 : Wm0T3) (ax2 : List UInt8) (b3 : List UInt8) : Nat → Int → Option (Int × Int × Bool)
 | 0, _ => none
 | n + 1, t16_a => cond (decide (t16_a < o1.1)) ((l58b a72c71 N d0 o1 ax2 b3 t16_a (fun y0 => (l58a a72c71 N d0 o1 ax2 b3 n y0)) N t16_a))
   (some ((0 : Int), (0 : Int), false))
theorem wl58a (a72c71 : Wm0T22) (N : Nat) (d0 : List Int) (o1 : Wm0T3) (ax2 : List UInt8) (b3 : List UInt8) (m : Nat) (t16_a : Int) : R58_0 a72c71 N (m + 1) (Sl58a d0 o1 ax2 b3 t16_a) = cond (decide (t16_a < o1.1)) ((R58_1 a72c71 N (R58_0 a72c71 N m) N (Sl58b d0 o1 ax2 b3 t16_a t16_a)))
   (some ((0 : Int), (0 : Int), false)) := by kernel_rfl
theorem ql58a (a72c71 : Wm0T22) (N : Nat) (d0 : List Int) (o1 : Wm0T3) (ax2 : List UInt8) (b3 : List UInt8) : ∀ (m : Nat) (t16_a : Int), R58_0 a72c71 N m (Sl58a d0 o1 ax2 b3 t16_a) = l58a a72c71 N d0 o1 ax2 b3 m t16_a
        | 0, _ => rfl
        | m + 1, t16_a => by rw [wl58a]; simp only [l58a, ql58b, ql58a a72c71 N d0 o1 ax2 b3 m]
def m58 (a72c71 : Wm0T22) (N : Nat) (d0 : List Int) (o1 : Wm0T3) (ax2 : List UInt8) (b3 : List UInt8) : Option (Int × Int × Bool) :=
   (l58a a72c71 N d0 o1 ax2 b3 N (0 : Int))
theorem wm58 (a72c71 : Wm0T22) (N : Nat) (d0 : List Int) (o1 : Wm0T3) (ax2 : List UInt8) (b3 : List UInt8) : callF (E58 a72c71) lv58 N en58 c58 (resOf Tryd.f58) 41 [.dv (.arr 6 (.int .u64)) d0, .dv (.pair (.int .i64) (.pair (.sl (.arr 2 (.int .i64))) (.unit))) o1, .dv (.str) ax2, .dv (.str) b3] [] dec58 = (R58_0 a72c71 N N (Sl58a d0 o1 ax2 b3 (0 : Int))) := by kernel_rfl
theorem k58 (a72c71 : Wm0T22) (N : Nat) (d0 : List Int) (o1 : Wm0T3) (ax2 : List UInt8) (b3 : List UInt8) : callF (E58 a72c71) lv58 N en58 c58 (resOf Tryd.f58) 41 [.dv (.arr 6 (.int .u64)) d0, .dv (.pair (.int .i64) (.pair (.sl (.arr 2 (.int .i64))) (.unit))) o1, .dv (.str) ax2, .dv (.str) b3] [] dec58 = m58 a72c71 N d0 o1 ax2 b3 := by rw [wm58]; simp only [m58, ql58a]
theorem ok58 (a72c71 : Wm0T22) (h72c71 : FnOk Tryd.prog 72 (F72c71 a72c71)) (a : (List Int) → (Int × List (List Int) × Unit) → (List UInt8) → (List UInt8) → Option (Int × Int × Bool)) (h : ∀ d0 o1 ax2 b3 r, a d0 o1 ax2 b3 = some r → (∃ N, m58 a72c71 N d0 o1 ax2 b3 = some r)) : FnOk Tryd.prog 58 (F58 a) := by
 intro args Of x hx
 simp only [F58] at hx
 split at hx
 ·rename_i d0 o1 ax2 b3
  obtain ⟨N, hN⟩ := h _ _ _ _ _ hx
  refine lifted (L := [(72, F72c71 a72c71)]) (rc := nrc) (fz := nfz) (fn := Tryd.f58) (by kernel_rfl) (by kernel_rfl) (by kernel_rfl) (by kernel_rfl) rfl ?_ ((k58 a72c71 N _ _ _ _).trans hN) ?_
  ·intro p hp; simp only [List.mem_cons, List.not_mem_nil, or_false] at hp; rcases hp with rfl; exact h72c71
  ·intro l o hd
   simp only [dec58] at hd
   split at hd
   ·obtain rfl := Option.some.inj hd; exact ⟨rfl, rfl⟩
   ·cases hd
 ·cases hx
def E34 (a41 : Wm0T11) (a58 : Wm0T23) : Env := mkE TI TY [(41, F41 a41), (58, F58 a58)] nrc nfz
noncomputable def c34 : Code := bodyOf Tryd.f34
def lv34 : Nat → Option Norm := norms []
def en34 : End := ⟨[], ⟨[35, 36], [], [], []⟩⟩
def dec34 (l : List TV) (o : List (Nat × TO)) : Option (Bool × Int) := match l, o with | [.dv (.bool) x0, .dv (.int .i64) x1], [] => some (x0, x1) | _, _ => none
def m34 (a41 : Wm0T11) (a58 : Wm0T23) (N : Nat) (o0 : Wm0T3) (ax1 : List UInt8) (b2 : List UInt8) : Option (Bool × Int) :=
   (a41 o0 ([ax1, b2] : List (List UInt8))).bind fun r1 =>
   cond (r1.2 != (0 : Int)) (some (false, r1.2))
   ((a58 r1.1 o0 ax1 b2).bind fun r2 =>
   some (!r2.2.2, (0 : Int)))
theorem k34 (a41 : Wm0T11) (a58 : Wm0T23) (N : Nat) (o0 : Wm0T3) (ax1 : List UInt8) (b2 : List UInt8) : callF (E34 a41 a58) lv34 N en34 c34 (resOf Tryd.f34) 32 [.dv (.pair (.int .i64) (.pair (.sl (.arr 2 (.int .i64))) (.unit))) o0, .dv (.str) ax1, .dv (.str) b2] [] dec34 = m34 a41 a58 N o0 ax1 b2 := by kernel_rfl
theorem ok34 (a41 : Wm0T11) (a58 : Wm0T23) (h41 : FnOk Tryd.prog 41 (F41 a41)) (h58 : FnOk Tryd.prog 58 (F58 a58)) (a : (Int × List (List Int) × Unit) → (List UInt8) → (List UInt8) → Option (Bool × Int)) (h : ∀ o0 ax1 b2 r, a o0 ax1 b2 = some r → (∃ N, m34 a41 a58 N o0 ax1 b2 = some r)) : FnOk Tryd.prog 34 (F34 a) := by
 intro args Of x hx
 simp only [F34] at hx
 split at hx
 ·rename_i o0 ax1 b2
  obtain ⟨N, hN⟩ := h _ _ _ _ hx
  refine lifted (L := [(41, F41 a41), (58, F58 a58)]) (rc := nrc) (fz := nfz) (fn := Tryd.f34) (by kernel_rfl) (by kernel_rfl) (by kernel_rfl) (by kernel_rfl) rfl ?_ ((k34 a41 a58 N _ _ _).trans hN) ?_
  ·intro p hp; simp only [List.mem_cons, List.not_mem_nil, or_false] at hp; rcases hp with rfl | rfl
   ·exact h41
   ·exact h58
  ·intro l o hd
   simp only [dec34] at hd
   split at hd
   ·obtain rfl := Option.some.inj hd; exact ⟨rfl, rfl⟩
   ·cases hd
 ·cases hx
def E36 (a41 : Wm0T11) (a58 : Wm0T23) : Env := mkE TI TY [(41, F41 a41), (58, F58 a58)] nrc nfz
noncomputable def c36 : Code := bodyOf Tryd.f36
def lv36 : Nat → Option Norm := norms []
def en36 : End := ⟨[], ⟨[35, 36, 37], [], [], []⟩⟩
def dec36 (l : List TV) (o : List (Nat × TO)) : Option (Int × Int × Int) := match l, o with | [.dv (.int .i64) x0, .dv (.int .i64) x1, .dv (.int .i64) x2], [] => some (x0, x1, x2) | _, _ => none
def m36 (a41 : Wm0T11) (a58 : Wm0T23) (N : Nat) (o0 : Wm0T3) (ax1 : List UInt8) (b2 : List UInt8) : Option (Int × Int × Int) :=
   (a41 o0 ([ax1, b2] : List (List UInt8))).bind fun r1 =>
   cond (r1.2 != (0 : Int)) (some ((0 : Int), (0 : Int), r1.2))
   ((a58 r1.1 o0 ax1 b2).bind fun r2 =>
   cond (!r2.2.2) (some ((0 : Int), (0 : Int), (20 : Int)))
   (some (r2.1, r2.2.1, (0 : Int))))
theorem k36 (a41 : Wm0T11) (a58 : Wm0T23) (N : Nat) (o0 : Wm0T3) (ax1 : List UInt8) (b2 : List UInt8) : callF (E36 a41 a58) lv36 N en36 c36 (resOf Tryd.f36) 32 [.dv (.pair (.int .i64) (.pair (.sl (.arr 2 (.int .i64))) (.unit))) o0, .dv (.str) ax1, .dv (.str) b2] [] dec36 = m36 a41 a58 N o0 ax1 b2 := by kernel_rfl
theorem ok36 (a41 : Wm0T11) (a58 : Wm0T23) (h41 : FnOk Tryd.prog 41 (F41 a41)) (h58 : FnOk Tryd.prog 58 (F58 a58)) (a : (Int × List (List Int) × Unit) → (List UInt8) → (List UInt8) → Option (Int × Int × Int)) (h : ∀ o0 ax1 b2 r, a o0 ax1 b2 = some r → (∃ N, m36 a41 a58 N o0 ax1 b2 = some r)) : FnOk Tryd.prog 36 (F36 a) := by
 intro args Of x hx
 simp only [F36] at hx
 split at hx
 ·rename_i o0 ax1 b2
  obtain ⟨N, hN⟩ := h _ _ _ _ hx
  refine lifted (L := [(41, F41 a41), (58, F58 a58)]) (rc := nrc) (fz := nfz) (fn := Tryd.f36) (by kernel_rfl) (by kernel_rfl) (by kernel_rfl) (by kernel_rfl) rfl ?_ ((k36 a41 a58 N _ _ _).trans hN) ?_
  ·intro p hp; simp only [List.mem_cons, List.not_mem_nil, or_false] at hp; rcases hp with rfl | rfl
   ·exact h41
   ·exact h58
  ·intro l o hd
   simp only [dec36] at hd
   split at hd
   ·obtain rfl := Option.some.inj hd; exact ⟨rfl, rfl⟩
   ·cases hd
 ·cases hx
def E37 : Env := mkE TI TY [] nrc nfz
noncomputable def c37 : Code := bodyOf Tryd.f37
def lv37 : Nat → Option Norm := norms []
def en37 : End := ⟨[(6, .pair (.int .i64) (.pair (.sl (.arr 2 (.int .i64))) (.unit)))], ⟨[6], [], [], []⟩⟩
def dec37 (l : List TV) (o : List (Nat × TO)) : Option (Int × List (List Int) × Unit) := match l, o with | [.dv (.pair (.int .i64) (.pair (.sl (.arr 2 (.int .i64))) (.unit))) x0], [] => some (x0) | _, _ => none
def m37 (N : Nat) : Option (Int × List (List Int) × Unit) :=
   some ((4 : Int), (([([(0 : Int), (2 : Int)] : List Int), ([(0 : Int), (3 : Int)] : List Int), ([(1 : Int), (3 : Int)] : List Int)] : List (List Int)), ()))
theorem k37 (N : Nat) : callF (E37) lv37 N en37 c37 (resOf Tryd.f37) 6 [] [] dec37 = m37 N := by kernel_rfl
theorem ok37 (a : Option (Int × List (List Int) × Unit)) (h : ∀ r, a = some r → (∃ N, m37 N = some r)) : FnOk Tryd.prog 37 (F37 a) := by
 intro args Of x hx
 simp only [F37] at hx
 split at hx
 ·skip
  obtain ⟨N, hN⟩ := h _ hx
  refine lifted (L := []) (rc := nrc) (fz := nfz) (fn := Tryd.f37) (by kernel_rfl) (by kernel_rfl) (by kernel_rfl) (by kernel_rfl) rfl ?_ ((k37 N).trans hN) ?_
  ·intro p hp; cases hp
  ·intro l o hd
   simp only [dec37] at hd
   split at hd
   ·obtain rfl := Option.some.inj hd; exact ⟨rfl, rfl⟩
   ·cases hd
 ·cases hx
def E60 : Env := mkE TI TY [] nrc nfz
noncomputable def c60 : Code := bodyOf Tryd.f60
def nm60_0 : Norm := ⟨[0, 1, 7, 8], [], [], []⟩
def lv60 : Nat → Option Norm := norms [(2, nm60_0)]
def en60 : End := ⟨[], ⟨[19], [], [], []⟩⟩
def dec60 (l : List TV) (o : List (Nat × TO)) : Option (Int) := match l, o with | [.dv (.int .i64) x0], [] => some (x0) | _, _ => none
def Sl60a (s0 : List Int) (v1 : Int) (t8_a : Int) : TS := ⟨slots 19 [(0, .dv (.sl (.int .u8)) s0), (1, .dv (.int .u8) v1), (7, .dv (.int .i64) (s0.length : Int)), (8, .dv (.int .i64) t8_a)], []⟩
noncomputable def K60_0 (N : Nat) : Kont (Int) := kont (E60) lv60 N c60 [1, 0, 1, 0] (fin TI en60 (resOf Tryd.f60) dec60)
noncomputable def R60_0 (N : Nat) (m : Nat) : TS → Option (Int) := loopK (den (E60) lv60 N (sub c60 [1, 0, 1, 0, 0])) (TS.norm nm60_0) (K60_0 N) m
def l60a (N : Nat) (s0 : List Int) (v1 : Int) : Nat → Int → Option (Int)
 | 0, _ => none
 | n + 1, t8_a => cond (decide (t8_a < (s0.length : Int))) (chk (decide (0 ≤ t8_a ∧ t8_a < (s0.length : Int))) (cond (v1 == (s0.getD t8_a.toNat (0 : Int))) (some t8_a)
   ((l60a N s0 v1 n (w64 (t8_a + (1 : Int)))))))
   (some (-1 : Int))
theorem wl60a (N : Nat) (s0 : List Int) (v1 : Int) (m : Nat) (t8_a : Int) : R60_0 N (m + 1) (Sl60a s0 v1 t8_a) = cond (decide (t8_a < (s0.length : Int))) (chk (decide (0 ≤ t8_a ∧ t8_a < (s0.length : Int))) (cond (v1 == (s0.getD t8_a.toNat (0 : Int))) (some t8_a)
   ((R60_0 N m (Sl60a s0 v1 (w64 (t8_a + (1 : Int))))))))
   (some (-1 : Int)) := by kernel_rfl
theorem ql60a (N : Nat) (s0 : List Int) (v1 : Int) : ∀ (m : Nat) (t8_a : Int), R60_0 N m (Sl60a s0 v1 t8_a) = l60a N s0 v1 m t8_a
        | 0, _ => rfl
        | m + 1, t8_a => by rw [wl60a]; simp only [l60a, ql60a N s0 v1 m]
def m60 (N : Nat) (s0 : List Int) (v1 : Int) : Option (Int) :=
   (l60a N s0 v1 N (0 : Int))
theorem wm60 (N : Nat) (s0 : List Int) (v1 : Int) : callF (E60) lv60 N en60 c60 (resOf Tryd.f60) 17 [.dv (.sl (.int .u8)) s0, .dv (.int .u8) v1] [] dec60 = (R60_0 N N (Sl60a s0 v1 (0 : Int))) := by kernel_rfl
theorem k60 (N : Nat) (s0 : List Int) (v1 : Int) : callF (E60) lv60 N en60 c60 (resOf Tryd.f60) 17 [.dv (.sl (.int .u8)) s0, .dv (.int .u8) v1] [] dec60 = m60 N s0 v1 := by rw [wm60]; simp only [m60, ql60a]
theorem ok60 (a : (List Int) → Int → Option (Int)) (h : ∀ s0 v1 r, a s0 v1 = some r → (∃ N, m60 N s0 v1 = some r)) : FnOk Tryd.prog 60 (F60 a) := by
 intro args Of x hx
 simp only [F60] at hx
 split at hx
 ·rename_i s0 v1
  obtain ⟨N, hN⟩ := h _ _ _ hx
  refine lifted (L := []) (rc := nrc) (fz := nfz) (fn := Tryd.f60) (by kernel_rfl) (by kernel_rfl) (by kernel_rfl) (by kernel_rfl) rfl ?_ ((k60 N _ _).trans hN) ?_
  ·intro p hp; cases hp
  ·intro l o hd
   simp only [dec60] at hd
   split at hd
   ·obtain rfl := Option.some.inj hd; exact ⟨rfl, rfl⟩
   ·cases hd
 ·cases hx
def E39 (a41 : Wm0T11) (a58 : Wm0T23) (a60 : Wm0T24) : Env := mkE TI TY [(41, F41 a41), (58, F58 a58), (60, F60 a60)] nrc nfz
noncomputable def c39 : Code := bodyOf Tryd.f39
def nm39_0 : Norm := ⟨[2, 14, 41, 42], [39], [(.slot 13, 1013, .int .i64)], []⟩
def nm39_1 : Norm := ⟨[2, 14, 15, 16, 41, 42], [39], [(.slot 13, 1013, .int .i64)], []⟩
def lv39 : Nat → Option Norm := norms [(10, nm39_0), (13, nm39_1)]
def en39 : End := ⟨[(82, .sl (.int .i64))], ⟨[82, 83], [], [], []⟩⟩
def dec39 (l : List TV) (o : List (Nat × TO)) : Option (List Int × Int) := match l, o with | [.dv (.sl (.int .i64)) x0, .dv (.int .i64) x1], [] => some (x0, x1) | _, _ => none
def Sl39b (b2 : List UInt8) (t42_a : Int) (k16_b : Int) (out13_b : List Int) (o39_b : List Int) : TS := ⟨slots 82 [(2, .dv (.str) b2), (13, .row 1013), (14, .row 39), (15, .dv (.int .i64) t42_a), (16, .dv (.int .i64) k16_b), (41, .dv (.int .i64) (b2.length : Int)), (42, .dv (.int .i64) t42_a)], [(1013, .row (.int .i64) out13_b), (39, .row (.int .u8) o39_b)]⟩
def Sl39a (b2 : List UInt8) (t42_a : Int) (out13_a : List Int) (o39_a : List Int) : TS := ⟨slots 82 [(2, .dv (.str) b2), (13, .row 1013), (14, .row 39), (41, .dv (.int .i64) (b2.length : Int)), (42, .dv (.int .i64) t42_a)], [(1013, .row (.int .i64) out13_a), (39, .row (.int .u8) o39_a)]⟩
noncomputable def K39_0 (a41 : Wm0T11) (a58 : Wm0T23) (a60 : Wm0T24) (N : Nat) : Kont (List Int × Int) := kont (E39 a41 a58 a60) lv39 N c39 [1, 1, 1, 1, 1, 1, 0, 1, 0] (fin TI en39 (resOf Tryd.f39) dec39)
noncomputable def R39_0 (a41 : Wm0T11) (a58 : Wm0T23) (a60 : Wm0T24) (N : Nat) (m : Nat) : TS → Option (List Int × Int) := loopK (den (E39 a41 a58 a60) lv39 N (sub c39 [1, 1, 1, 1, 1, 1, 0, 1, 0, 0])) (TS.norm nm39_0) (K39_0 a41 a58 a60 N) m
noncomputable def K39_1 (a41 : Wm0T11) (a58 : Wm0T23) (a60 : Wm0T24) (N : Nat) (T39_0 : Wm0T6) : Kont (List Int × Int) := kont (E39 a41 a58 a60) lv39 N (sub c39 [1, 1, 1, 1, 1, 1, 0, 1, 0, 0]) [1, 1, 0, 0, 1, 1, 0] (kloop (TS.norm nm39_0) (K39_0 a41 a58 a60 N) T39_0)
noncomputable def R39_1 (a41 : Wm0T11) (a58 : Wm0T23) (a60 : Wm0T24) (N : Nat) (T39_0 : Wm0T6) (m : Nat) : TS → Option (List Int × Int) := loopK (den (E39 a41 a58 a60) lv39 N (sub c39 [1, 1, 1, 1, 1, 1, 0, 1, 0, 0, 1, 1, 0, 0, 1, 1, 0, 0])) (TS.norm nm39_1) (K39_1 a41 a58 a60 N T39_0) m
def l39b (a41 : Wm0T11) (a58 : Wm0T23) (a60 : Wm0T24) (N : Nat) (b2 : List UInt8) (t42_a : Int) (rec_l39a : Int → (List Int) → (List Int) → Option (List Int × Int)) : Nat → Int → (List Int) → (List Int) → Option (List Int × Int)
 | 0, _, _, _ => none
 | n + 1, k16_b, out13_b, o39_b => cond (decide (k16_b > t42_a)) (chk (decide (0 ≤ k16_b ∧ k16_b < (o39_b.length : Int))) (chk (decide (0 ≤ w64 (k16_b - (1 : Int)) ∧ w64 (k16_b - (1 : Int)) < (o39_b.length : Int))) (chk (decide (0 ≤ w64 (k16_b - (1 : Int)) ∧ w64 (k16_b - (1 : Int)) < (o39_b.length : Int))) (chk (decide (0 ≤ k16_b ∧ k16_b < ((o39_b.set ((w64 (k16_b - (1 : Int))).toNat) (o39_b.getD k16_b.toNat (0 : Int))).length : Int))) (chk (small (out13_b.length + 1) 8) ((l39b a41 a58 a60 N b2 t42_a rec_l39a n (w64 (k16_b - (1 : Int))) (out13_b ++ ([w64 (k16_b - (1 : Int))] : List Int)) ((o39_b.set ((w64 (k16_b - (1 : Int))).toNat) (o39_b.getD k16_b.toNat (0 : Int))).set k16_b.toNat (o39_b.getD ((w64 (k16_b - (1 : Int))).toNat) (0 : Int))))))))))
   ((rec_l39a (w64 (t42_a + (1 : Int))) out13_b o39_b))
theorem wl39b (a41 : Wm0T11) (a58 : Wm0T23) (a60 : Wm0T24) (N : Nat) (b2 : List UInt8) (t42_a : Int) (T39_0 : Wm0T6) (m : Nat) (k16_b : Int) (out13_b : List Int) (o39_b : List Int) : R39_1 a41 a58 a60 N T39_0 (m + 1) (Sl39b b2 t42_a k16_b out13_b o39_b) = cond (decide (k16_b > t42_a)) (chk (decide (0 ≤ k16_b ∧ k16_b < (o39_b.length : Int))) (chk (decide (0 ≤ w64 (k16_b - (1 : Int)) ∧ w64 (k16_b - (1 : Int)) < (o39_b.length : Int))) (chk (decide (0 ≤ w64 (k16_b - (1 : Int)) ∧ w64 (k16_b - (1 : Int)) < (o39_b.length : Int))) (chk (decide (0 ≤ k16_b ∧ k16_b < ((o39_b.set ((w64 (k16_b - (1 : Int))).toNat) (o39_b.getD k16_b.toNat (0 : Int))).length : Int))) (chk (small (out13_b.length + 1) 8) ((R39_1 a41 a58 a60 N T39_0 m (Sl39b b2 t42_a (w64 (k16_b - (1 : Int))) (out13_b ++ ([w64 (k16_b - (1 : Int))] : List Int)) ((o39_b.set ((w64 (k16_b - (1 : Int))).toNat) (o39_b.getD k16_b.toNat (0 : Int))).set k16_b.toNat (o39_b.getD ((w64 (k16_b - (1 : Int))).toNat) (0 : Int)))))))))))
   ((T39_0 (Sl39a b2 (w64 (t42_a + (1 : Int))) out13_b o39_b))) := by kernel_rfl
theorem ql39b (a41 : Wm0T11) (a58 : Wm0T23) (a60 : Wm0T24) (N : Nat) (b2 : List UInt8) (t42_a : Int) (T39_0 : Wm0T6) : ∀ (m : Nat) (k16_b : Int) (out13_b : List Int) (o39_b : List Int), R39_1 a41 a58 a60 N T39_0 m (Sl39b b2 t42_a k16_b out13_b o39_b) = l39b a41 a58 a60 N b2 t42_a (fun y0 y1 y2 => T39_0 (Sl39a b2 y0 y1 y2)) m k16_b out13_b o39_b
        | 0, _, _, _ => rfl
        | m + 1, k16_b, out13_b, o39_b => by rw [wl39b]; simp only [l39b, ql39b a41 a58 a60 N b2 t42_a T39_0 m]
def l39a (a41 : Wm0T11) (a58 : Wm0T23) (a60 : Wm0T24) (N : Nat) (b2 : List UInt8) : Nat → Int → (List Int) → (List Int) → Option (List Int × Int)
 | 0, _, _, _ => none
 | n + 1, t42_a, out13_a, o39_a => cond (decide (t42_a < (b2.length : Int))) (chk (decide (0 ≤ t42_a ∧ t42_a ≤ (o39_a.length : Int))) (chk (decide (0 ≤ t42_a ∧ t42_a < (b2.length : Int))) ((a60 ((o39_a.take o39_a.length).drop t42_a.toNat) (((b2.getD t42_a.toNat 0).toNat : Nat) : Int)).bind fun r3 =>
   (l39b a41 a58 a60 N b2 t42_a (fun y0 y1 y2 => (l39a a41 a58 a60 N b2 n y0 y1 y2)) N (w64 (t42_a + r3)) out13_a o39_a))))
   (some (out13_a, (0 : Int)))
theorem wl39a (a41 : Wm0T11) (a58 : Wm0T23) (a60 : Wm0T24) (N : Nat) (b2 : List UInt8) (m : Nat) (t42_a : Int) (out13_a : List Int) (o39_a : List Int) : R39_0 a41 a58 a60 N (m + 1) (Sl39a b2 t42_a out13_a o39_a) = cond (decide (t42_a < (b2.length : Int))) (chk (decide (0 ≤ t42_a ∧ t42_a ≤ (o39_a.length : Int))) (chk (decide (0 ≤ t42_a ∧ t42_a < (b2.length : Int))) ((a60 ((o39_a.take o39_a.length).drop t42_a.toNat) (((b2.getD t42_a.toNat 0).toNat : Nat) : Int)).bind fun r3 =>
   (R39_1 a41 a58 a60 N (R39_0 a41 a58 a60 N m) N (Sl39b b2 t42_a (w64 (t42_a + r3)) out13_a o39_a)))))
   (some (out13_a, (0 : Int))) := by kernel_rfl
theorem ql39a (a41 : Wm0T11) (a58 : Wm0T23) (a60 : Wm0T24) (N : Nat) (b2 : List UInt8) : ∀ (m : Nat) (t42_a : Int) (out13_a : List Int) (o39_a : List Int), R39_0 a41 a58 a60 N m (Sl39a b2 t42_a out13_a o39_a) = l39a a41 a58 a60 N b2 m t42_a out13_a o39_a
        | 0, _, _, _ => rfl
        | m + 1, t42_a, out13_a, o39_a => by rw [wl39a]; simp only [l39a, ql39b, ql39a a41 a58 a60 N b2 m]
def m39 (a41 : Wm0T11) (a58 : Wm0T23) (a60 : Wm0T24) (N : Nat) (o0 : Wm0T3) (ax1 : List UInt8) (b2 : List UInt8) : Option (List Int × Int) :=
   (a41 o0 ([ax1, b2] : List (List UInt8))).bind fun r1 =>
   cond (r1.2 != (0 : Int)) (some (([] : List Int), r1.2))
   ((a58 r1.1 o0 ax1 b2).bind fun r2 =>
   cond (r2.2.2) (some (([] : List Int), (14 : Int)))
   (chk (small (ax1.length) 1) ((l39a a41 a58 a60 N b2 N (0 : Int) ([] : List Int) (ofBytes ax1)))))
theorem wm39 (a41 : Wm0T11) (a58 : Wm0T23) (a60 : Wm0T24) (N : Nat) (o0 : Wm0T3) (ax1 : List UInt8) (b2 : List UInt8) : callF (E39 a41 a58 a60) lv39 N en39 c39 (resOf Tryd.f39) 79 [.dv (.pair (.int .i64) (.pair (.sl (.arr 2 (.int .i64))) (.unit))) o0, .dv (.str) ax1, .dv (.str) b2] [] dec39 = (a41 o0 ([ax1, b2] : List (List UInt8))).bind fun r1 =>
   cond (r1.2 != (0 : Int)) (some (([] : List Int), r1.2))
   ((a58 r1.1 o0 ax1 b2).bind fun r2 =>
   cond (r2.2.2) (some (([] : List Int), (14 : Int)))
   (chk (small (ax1.length) 1) ((R39_0 a41 a58 a60 N N (Sl39a b2 (0 : Int) ([] : List Int) (ofBytes ax1)))))) := by kernel_rfl
theorem k39 (a41 : Wm0T11) (a58 : Wm0T23) (a60 : Wm0T24) (N : Nat) (o0 : Wm0T3) (ax1 : List UInt8) (b2 : List UInt8) : callF (E39 a41 a58 a60) lv39 N en39 c39 (resOf Tryd.f39) 79 [.dv (.pair (.int .i64) (.pair (.sl (.arr 2 (.int .i64))) (.unit))) o0, .dv (.str) ax1, .dv (.str) b2] [] dec39 = m39 a41 a58 a60 N o0 ax1 b2 := by rw [wm39]; simp only [m39, ql39a]
theorem ok39 (a41 : Wm0T11) (a58 : Wm0T23) (a60 : Wm0T24) (h41 : FnOk Tryd.prog 41 (F41 a41)) (h58 : FnOk Tryd.prog 58 (F58 a58)) (h60 : FnOk Tryd.prog 60 (F60 a60)) (a : (Int × List (List Int) × Unit) → (List UInt8) → (List UInt8) → Option (List Int × Int)) (h : ∀ o0 ax1 b2 r, a o0 ax1 b2 = some r → (∃ N, m39 a41 a58 a60 N o0 ax1 b2 = some r)) : FnOk Tryd.prog 39 (F39 a) := by
 intro args Of x hx
 simp only [F39] at hx
 split at hx
 ·rename_i o0 ax1 b2
  obtain ⟨N, hN⟩ := h _ _ _ _ hx
  refine lifted (L := [(41, F41 a41), (58, F58 a58), (60, F60 a60)]) (rc := nrc) (fz := nfz) (fn := Tryd.f39) (by kernel_rfl) (by kernel_rfl) (by kernel_rfl) (by kernel_rfl) rfl ?_ ((k39 a41 a58 a60 N _ _ _).trans hN) ?_
  ·intro p hp; simp only [List.mem_cons, List.not_mem_nil, or_false] at hp; rcases hp with rfl | rfl | rfl
   ·exact h41
   ·exact h58
   ·exact h60
  ·intro l o hd
   simp only [dec39] at hd
   split at hd
   ·obtain rfl := Option.some.inj hd; exact ⟨rfl, rfl⟩
   ·cases hd
 ·cases hx
def E40 (a41 : Wm0T11) (a49 : Wm0T9) (a51 : Wm0T1) : Env := mkE TI TY [(41, F41 a41), (49, F49 a49), (51, F51 a51)] nrc nfz
noncomputable def c40 : Code := bodyOf Tryd.f40
def nm40_0 : Norm := ⟨[2, 9, 11, 27, 28, 29], [9, 26], [], []⟩
def lv40 : Nat → Option Norm := norms [(6, nm40_0)]
def en40 : End := ⟨[], ⟨[73], [], [], []⟩⟩
def dec40 (l : List TV) (o : List (Nat × TO)) : Option (Int) := match l, o with | [.dv (.int .i64) x0], [] => some (x0) | _, _ => none
def Sl40a (b2 : List UInt8) (swaps3 : List Int) (r1 : List Int × Int) (t29_a : Int) (o26_a : List Int) : TS := ⟨slots 73 [(2, .dv (.str) b2), (9, .ptr 9 0 []), (11, .row 26), (27, .dv (.sl (.int .i64)) swaps3), (28, .dv (.int .i64) (swaps3.length : Int)), (29, .dv (.int .i64) t29_a)], [(9, .row (.arr 6 (.int .u64)) ([r1.1] : List (List Int))), (26, .row (.int .u8) o26_a)]⟩
noncomputable def K40_0 (a41 : Wm0T11) (a49 : Wm0T9) (a51 : Wm0T1) (N : Nat) : Kont (Int) := kont (E40 a41 a49 a51) lv40 N c40 [1, 1, 1, 1, 0, 1, 0] (fin TI en40 (resOf Tryd.f40) dec40)
noncomputable def R40_0 (a41 : Wm0T11) (a49 : Wm0T9) (a51 : Wm0T1) (N : Nat) (m : Nat) : TS → Option (Int) := loopK (den (E40 a41 a49 a51) lv40 N (sub c40 [1, 1, 1, 1, 0, 1, 0, 0])) (TS.norm nm40_0) (K40_0 a41 a49 a51 N) m
def l40a (a41 : Wm0T11) (a49 : Wm0T9) (a51 : Wm0T1) (N : Nat) (b2 : List UInt8) (swaps3 : List Int) (r1 : List Int × Int) : Nat → Int → (List Int) → Option (Int)
 | 0, _, _ => none
 | n + 1, t29_a, o26_a => cond (decide (t29_a < (swaps3.length : Int))) (chk (decide (0 ≤ t29_a ∧ t29_a < (swaps3.length : Int))) ((a51 (0 : Int) (swaps3.getD t29_a.toNat (0 : Int)) (w64 ((o26_a.length : Int) - (2 : Int)))).bind fun r2 =>
   cond (!r2) (some (5 : Int))
   (chk (decide (0 ≤ swaps3.getD t29_a.toNat (0 : Int) ∧ swaps3.getD t29_a.toNat (0 : Int) < (o26_a.length : Int))) (chk (decide (0 ≤ w64 ((swaps3.getD t29_a.toNat (0 : Int)) + (1 : Int)) ∧ w64 ((swaps3.getD t29_a.toNat (0 : Int)) + (1 : Int)) < (o26_a.length : Int))) ((a49 r1.1 (o26_a.getD ((swaps3.getD t29_a.toNat (0 : Int)).toNat) (0 : Int)) (o26_a.getD ((w64 ((swaps3.getD t29_a.toNat (0 : Int)) + (1 : Int))).toNat) (0 : Int))).bind fun r3 =>
   cond (r3) (some (12 : Int))
   (chk (decide (0 ≤ w64 ((swaps3.getD t29_a.toNat (0 : Int)) + (1 : Int)) ∧ w64 ((swaps3.getD t29_a.toNat (0 : Int)) + (1 : Int)) < (o26_a.length : Int))) (chk (decide (0 ≤ swaps3.getD t29_a.toNat (0 : Int) ∧ swaps3.getD t29_a.toNat (0 : Int) < (o26_a.length : Int))) (chk (decide (0 ≤ swaps3.getD t29_a.toNat (0 : Int) ∧ swaps3.getD t29_a.toNat (0 : Int) < (o26_a.length : Int))) (chk (decide (0 ≤ w64 ((swaps3.getD t29_a.toNat (0 : Int)) + (1 : Int)) ∧ w64 ((swaps3.getD t29_a.toNat (0 : Int)) + (1 : Int)) < ((o26_a.set ((swaps3.getD t29_a.toNat (0 : Int)).toNat) (o26_a.getD ((w64 ((swaps3.getD t29_a.toNat (0 : Int)) + (1 : Int))).toNat) (0 : Int))).length : Int))) ((l40a a41 a49 a51 N b2 swaps3 r1 n (w64 (t29_a + (1 : Int))) ((o26_a.set ((swaps3.getD t29_a.toNat (0 : Int)).toNat) (o26_a.getD ((w64 ((swaps3.getD t29_a.toNat (0 : Int)) + (1 : Int))).toNat) (0 : Int))).set ((w64 ((swaps3.getD t29_a.toNat (0 : Int)) + (1 : Int))).toNat) (o26_a.getD ((swaps3.getD t29_a.toNat (0 : Int)).toNat) (0 : Int))))))))))))))
   (cond (!((toBytes o26_a) == b2)) (some (13 : Int))
   (some (0 : Int)))
theorem wl40a (a41 : Wm0T11) (a49 : Wm0T9) (a51 : Wm0T1) (N : Nat) (b2 : List UInt8) (swaps3 : List Int) (r1 : List Int × Int) (m : Nat) (t29_a : Int) (o26_a : List Int) : R40_0 a41 a49 a51 N (m + 1) (Sl40a b2 swaps3 r1 t29_a o26_a) = cond (decide (t29_a < (swaps3.length : Int))) (chk (decide (0 ≤ t29_a ∧ t29_a < (swaps3.length : Int))) ((a51 (0 : Int) (swaps3.getD t29_a.toNat (0 : Int)) (w64 ((o26_a.length : Int) - (2 : Int)))).bind fun r2 =>
   cond (!r2) (some (5 : Int))
   (chk (decide (0 ≤ swaps3.getD t29_a.toNat (0 : Int) ∧ swaps3.getD t29_a.toNat (0 : Int) < (o26_a.length : Int))) (chk (decide (0 ≤ w64 ((swaps3.getD t29_a.toNat (0 : Int)) + (1 : Int)) ∧ w64 ((swaps3.getD t29_a.toNat (0 : Int)) + (1 : Int)) < (o26_a.length : Int))) ((a49 r1.1 (o26_a.getD ((swaps3.getD t29_a.toNat (0 : Int)).toNat) (0 : Int)) (o26_a.getD ((w64 ((swaps3.getD t29_a.toNat (0 : Int)) + (1 : Int))).toNat) (0 : Int))).bind fun r3 =>
   cond (r3) (some (12 : Int))
   (chk (decide (0 ≤ w64 ((swaps3.getD t29_a.toNat (0 : Int)) + (1 : Int)) ∧ w64 ((swaps3.getD t29_a.toNat (0 : Int)) + (1 : Int)) < (o26_a.length : Int))) (chk (decide (0 ≤ swaps3.getD t29_a.toNat (0 : Int) ∧ swaps3.getD t29_a.toNat (0 : Int) < (o26_a.length : Int))) (chk (decide (0 ≤ swaps3.getD t29_a.toNat (0 : Int) ∧ swaps3.getD t29_a.toNat (0 : Int) < (o26_a.length : Int))) (chk (decide (0 ≤ w64 ((swaps3.getD t29_a.toNat (0 : Int)) + (1 : Int)) ∧ w64 ((swaps3.getD t29_a.toNat (0 : Int)) + (1 : Int)) < ((o26_a.set ((swaps3.getD t29_a.toNat (0 : Int)).toNat) (o26_a.getD ((w64 ((swaps3.getD t29_a.toNat (0 : Int)) + (1 : Int))).toNat) (0 : Int))).length : Int))) ((R40_0 a41 a49 a51 N m (Sl40a b2 swaps3 r1 (w64 (t29_a + (1 : Int))) ((o26_a.set ((swaps3.getD t29_a.toNat (0 : Int)).toNat) (o26_a.getD ((w64 ((swaps3.getD t29_a.toNat (0 : Int)) + (1 : Int))).toNat) (0 : Int))).set ((w64 ((swaps3.getD t29_a.toNat (0 : Int)) + (1 : Int))).toNat) (o26_a.getD ((swaps3.getD t29_a.toNat (0 : Int)).toNat) (0 : Int)))))))))))))))
   (cond (!((toBytes o26_a) == b2)) (some (13 : Int))
   (some (0 : Int))) := by kernel_rfl
theorem ql40a (a41 : Wm0T11) (a49 : Wm0T9) (a51 : Wm0T1) (N : Nat) (b2 : List UInt8) (swaps3 : List Int) (r1 : List Int × Int) : ∀ (m : Nat) (t29_a : Int) (o26_a : List Int), R40_0 a41 a49 a51 N m (Sl40a b2 swaps3 r1 t29_a o26_a) = l40a a41 a49 a51 N b2 swaps3 r1 m t29_a o26_a
        | 0, _, _ => rfl
        | m + 1, t29_a, o26_a => by rw [wl40a]; simp only [l40a, ql40a a41 a49 a51 N b2 swaps3 r1 m]
def m40 (a41 : Wm0T11) (a49 : Wm0T9) (a51 : Wm0T1) (N : Nat) (o0 : Wm0T3) (ax1 : List UInt8) (b2 : List UInt8) (swaps3 : List Int) : Option (Int) :=
   (a41 o0 ([ax1, b2] : List (List UInt8))).bind fun r1 =>
   cond (r1.2 != (0 : Int)) (some r1.2)
   (chk (small (ax1.length) 1) ((l40a a41 a49 a51 N b2 swaps3 r1 N (0 : Int) (ofBytes ax1))))
theorem wm40 (a41 : Wm0T11) (a49 : Wm0T9) (a51 : Wm0T1) (N : Nat) (o0 : Wm0T3) (ax1 : List UInt8) (b2 : List UInt8) (swaps3 : List Int) : callF (E40 a41 a49 a51) lv40 N en40 c40 (resOf Tryd.f40) 69 [.dv (.pair (.int .i64) (.pair (.sl (.arr 2 (.int .i64))) (.unit))) o0, .dv (.str) ax1, .dv (.str) b2, .dv (.sl (.int .i64)) swaps3] [] dec40 = (a41 o0 ([ax1, b2] : List (List UInt8))).bind fun r1 =>
   cond (r1.2 != (0 : Int)) (some r1.2)
   (chk (small (ax1.length) 1) ((R40_0 a41 a49 a51 N N (Sl40a b2 swaps3 r1 (0 : Int) (ofBytes ax1))))) := by kernel_rfl
theorem k40 (a41 : Wm0T11) (a49 : Wm0T9) (a51 : Wm0T1) (N : Nat) (o0 : Wm0T3) (ax1 : List UInt8) (b2 : List UInt8) (swaps3 : List Int) : callF (E40 a41 a49 a51) lv40 N en40 c40 (resOf Tryd.f40) 69 [.dv (.pair (.int .i64) (.pair (.sl (.arr 2 (.int .i64))) (.unit))) o0, .dv (.str) ax1, .dv (.str) b2, .dv (.sl (.int .i64)) swaps3] [] dec40 = m40 a41 a49 a51 N o0 ax1 b2 swaps3 := by rw [wm40]; simp only [m40, ql40a]
theorem ok40 (a41 : Wm0T11) (a49 : Wm0T9) (a51 : Wm0T1) (h41 : FnOk Tryd.prog 41 (F41 a41)) (h49 : FnOk Tryd.prog 49 (F49 a49)) (h51 : FnOk Tryd.prog 51 (F51 a51)) (a : (Int × List (List Int) × Unit) → (List UInt8) → (List UInt8) → (List Int) → Option (Int)) (h : ∀ o0 ax1 b2 swaps3 r, a o0 ax1 b2 swaps3 = some r → (∃ N, m40 a41 a49 a51 N o0 ax1 b2 swaps3 = some r)) : FnOk Tryd.prog 40 (F40 a) := by
 intro args Of x hx
 simp only [F40] at hx
 split at hx
 ·rename_i o0 ax1 b2 swaps3
  obtain ⟨N, hN⟩ := h _ _ _ _ _ hx
  refine lifted (L := [(41, F41 a41), (49, F49 a49), (51, F51 a51)]) (rc := nrc) (fz := nfz) (fn := Tryd.f40) (by kernel_rfl) (by kernel_rfl) (by kernel_rfl) (by kernel_rfl) rfl ?_ ((k40 a41 a49 a51 N _ _ _ _).trans hN) ?_
  ·intro p hp; simp only [List.mem_cons, List.not_mem_nil, or_false] at hp; rcases hp with rfl | rfl | rfl
   ·exact h41
   ·exact h49
   ·exact h51
  ·intro l o hd
   simp only [dec40] at hd
   split at hd
   ·obtain rfl := Option.some.inj hd; exact ⟨rfl, rfl⟩
   ·cases hd
 ·cases hx
def E11 (a13 : Wm0T25) (a15 : Wm0T26) (a17 : Wm0T27) (a18 : Wm0T28) (a20 : Wm0T29) (a22 : Wm0T30) (a24 : Wm0T30) (a34 : Wm0T31) (a36 : Wm0T32) (a37 : Option (Int × List (List Int) × Unit)) (a39 : Wm0T33) (a40 : Wm0T34) : Env := mkE TI TY [(13, F13 a13), (15, F15 a15), (17, F17 a17), (18, F18 a18), (20, F20 a20), (22, F22 a22), (24, F24 a24), (34, F34 a34), (36, F36 a36), (37, F37 a37), (39, F39 a39), (40, F40 a40)] nrc nfz
noncomputable def c11 : Code := bodyOf Tryd.f11
def lv11 : Nat → Option Norm := norms []
def en11 : End := ⟨[], ⟨[187], [], [], []⟩⟩
def dec11 (l : List TV) (o : List (Nat × TO)) : Option (Bool) := match l, o with | [.dv (.bool) x0], [] => some (x0) | _, _ => none
def m11 (a13 : Wm0T25) (a15 : Wm0T26) (a17 : Wm0T27) (a18 : Wm0T28) (a20 : Wm0T29) (a22 : Wm0T30) (a24 : Wm0T30) (a34 : Wm0T31) (a36 : Wm0T32) (a37 : Option (Int × List (List Int) × Unit)) (a39 : Wm0T33) (a40 : Wm0T34) (N : Nat) : Option (Bool) :=
   (a37).bind fun r1 =>
   (a34 r1 ([98, 97, 100, 99] : List UInt8) ([98, 100, 99, 97] : List UInt8)).bind fun r2 =>
   (a37).bind fun r3 =>
   (a34 r3 ([97, 98, 99] : List UInt8) ([97, 99, 98] : List UInt8)).bind fun r4 =>
   (a37).bind fun r5 =>
   (a36 r5 ([97, 98, 99] : List UInt8) ([97, 99, 98] : List UInt8)).bind fun r6 =>
   (a37).bind fun r7 =>
   (a39 r7 ([98, 97, 100, 99] : List UInt8) ([98, 100, 99, 97] : List UInt8)).bind fun r8 =>
   (a37).bind fun r9 =>
   (a13 r9 ([100, 97, 99, 98] : List UInt8)).bind fun r10 =>
   (a37).bind fun r11 =>
   (a15 r11 ([100, 97, 99, 98] : List UInt8)).bind fun r12 =>
   (a37).bind fun r13 =>
   (a18 r13 ([100, 97, 99, 98] : List UInt8)).bind fun r14 =>
   (a37).bind fun r15 =>
   (a20 r15 ([100, 97, 99, 98] : List UInt8) (0 : Int) (2 : Int)).bind fun r16 =>
   cond (r2.2 != (0 : Int)) (some false)
   (cond (r4.2 != (0 : Int)) (some false)
   (cond (r6.2.2 != (0 : Int)) (some false)
   (cond (r8.2 != (0 : Int)) (some false)
   (cond (r10.2 != (0 : Int)) (some false)
   (cond (r12.2 != (0 : Int)) (some false)
   (cond (r14.2 != (0 : Int)) (some false)
   (cond (r16.2 != (0 : Int)) (some false)
   (cond (!r2.1) (some false)
   (cond (r4.1) (some false)
   (cond (r6.1 != (1 : Int)) (some false)
   (cond (r6.2.1 != (2 : Int)) (some false)
   (cond ((r8.1.length : Int) != (2 : Int)) (some false)
   (cond (!r16.1) (some false)
   ((a37).bind fun r17 =>
   (a20 r17 ([100, 97, 99, 98] : List UInt8) (0 : Int) (1 : Int)).bind fun r18 =>
   (a37).bind fun r19 =>
   (a22 r19 ([100, 97] : List UInt8) ([98, 97, 100, 99] : List UInt8)).bind fun r20 =>
   (a37).bind fun r21 =>
   (a22 r21 ([98] : List UInt8) ([98, 97, 100, 99] : List UInt8)).bind fun r22 =>
   (a37).bind fun r23 =>
   (a24 r23 ([98, 97, 100, 99] : List UInt8) ([98, 100, 97] : List UInt8)).bind fun r24 =>
   cond (r18.2 == (0 : Int)) (cond (r20.2 == (14 : Int)) (cond (r22.2 == (0 : Int)) (cond (r24.2 == (0 : Int)) (cond (!r18.1) (cond (r22.1 == ([97, 100, 99] : List UInt8)) (cond (r24.1 == ([98, 97, 100] : List UInt8)) (cond (r10.1 == ([97, 100, 99, 98] : List UInt8)) ((a17 r12.1 ([([97, 100] : List UInt8), ([99] : List UInt8), ([98] : List UInt8)] : List (List UInt8))).bind fun r25 =>
   cond (r25) (cond (r14.1 == (3 : Int)) ((a37).bind fun r26 =>
   (a40 r26 ([98, 97, 100, 99] : List UInt8) ([98, 100, 99, 97] : List UInt8) r8.1).bind fun r27 =>
   cond (r27 == (0 : Int)) ((a37).bind fun r28 =>
   (a40 r28 ([97, 98, 99] : List UInt8) ([97, 99, 98] : List UInt8) ([(1 : Int)] : List Int)).bind fun r29 =>
   some (r29 == (12 : Int)))
   (some false))
   (some false))
   (some false))
   (some false))
   (some false))
   (some false))
   (some false))
   (some false))
   (some false))
   (some false))
   (some false)))))))))))))))
theorem k11 (a13 : Wm0T25) (a15 : Wm0T26) (a17 : Wm0T27) (a18 : Wm0T28) (a20 : Wm0T29) (a22 : Wm0T30) (a24 : Wm0T30) (a34 : Wm0T31) (a36 : Wm0T32) (a37 : Option (Int × List (List Int) × Unit)) (a39 : Wm0T33) (a40 : Wm0T34) (N : Nat) : callF (E11 a13 a15 a17 a18 a20 a22 a24 a34 a36 a37 a39 a40) lv11 N en11 c11 (resOf Tryd.f11) 187 [] [] dec11 = m11 a13 a15 a17 a18 a20 a22 a24 a34 a36 a37 a39 a40 N := by kernel_rfl
theorem ok11 (a13 : Wm0T25) (a15 : Wm0T26) (a17 : Wm0T27) (a18 : Wm0T28) (a20 : Wm0T29) (a22 : Wm0T30) (a24 : Wm0T30) (a34 : Wm0T31) (a36 : Wm0T32) (a37 : Option (Int × List (List Int) × Unit)) (a39 : Wm0T33) (a40 : Wm0T34) (h13 : FnOk Tryd.prog 13 (F13 a13)) (h15 : FnOk Tryd.prog 15 (F15 a15)) (h17 : FnOk Tryd.prog 17 (F17 a17)) (h18 : FnOk Tryd.prog 18 (F18 a18)) (h20 : FnOk Tryd.prog 20 (F20 a20)) (h22 : FnOk Tryd.prog 22 (F22 a22)) (h24 : FnOk Tryd.prog 24 (F24 a24)) (h34 : FnOk Tryd.prog 34 (F34 a34)) (h36 : FnOk Tryd.prog 36 (F36 a36)) (h37 : FnOk Tryd.prog 37 (F37 a37)) (h39 : FnOk Tryd.prog 39 (F39 a39)) (h40 : FnOk Tryd.prog 40 (F40 a40)) (a : Option (Bool)) (h : ∀ r, a = some r → (∃ N, m11 a13 a15 a17 a18 a20 a22 a24 a34 a36 a37 a39 a40 N = some r)) : FnOk Tryd.prog 11 (F11 a) := by
 intro args Of x hx
 simp only [F11] at hx
 split at hx
 ·skip
  obtain ⟨N, hN⟩ := h _ hx
  refine lifted (L := [(13, F13 a13), (15, F15 a15), (17, F17 a17), (18, F18 a18), (20, F20 a20), (22, F22 a22), (24, F24 a24), (34, F34 a34), (36, F36 a36), (37, F37 a37), (39, F39 a39), (40, F40 a40)]) (rc := nrc) (fz := nfz) (fn := Tryd.f11) (by kernel_rfl) (by kernel_rfl) (by kernel_rfl) (by kernel_rfl) rfl ?_ ((k11 a13 a15 a17 a18 a20 a22 a24 a34 a36 a37 a39 a40 N).trans hN) ?_
  ·intro p hp; simp only [List.mem_cons, List.not_mem_nil, or_false] at hp; rcases hp with rfl | rfl | rfl | rfl | rfl | rfl | rfl | rfl | rfl | rfl | rfl | rfl
   ·exact h13
   ·exact h15
   ·exact h17
   ·exact h18
   ·exact h20
   ·exact h22
   ·exact h24
   ·exact h34
   ·exact h36
   ·exact h37
   ·exact h39
   ·exact h40
  ·intro l o hd
   simp only [dec11] at hd
   split at hd
   ·obtain rfl := Option.some.inj hd; exact ⟨rfl, rfl⟩
   ·cases hd
 ·cases hx
end Go.Proofs.YtmpbbkldopfkpaaDoor
