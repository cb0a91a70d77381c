import Derived.Test.YtmpbbkldopfkpaaDoorQFI
namespace Go.Proofs.YtmpbbkldopfkpaaDoor
open Go.RowKit
set_option linter.unusedVariables false
abbrev Q64T0 := Int → Int → Int → Option (Bool)
abbrev Q64T1 := (Int × List (List Int) × Unit) → Int → Int → Int → Option (Bool)
abbrev Q64T2 := Int × List (List Int) × Unit
def E64 (a52 : Q64T0) (a67 : Q64T1) : Env := mkE TI TY [(52, F52 a52), (67, F67 a67)] nrc nfz
noncomputable def c64 : Code := bodyOf Tryd.f64
def nm64_0 : Norm := ⟨[1, 3], [1], [], []⟩
def lv64 : Nat → Option Norm := norms [(6, nm64_0)]
def en64 : End := ⟨[], ⟨[55], [], [], []⟩⟩
def dec64 (l : List TV) (o : List (Nat × TO)) : Option (Int) := match l, o with | [.dv (.int .i64) x0], [] => some (x0) | _, _ => none
def Sl64a (o0 : Q64T2) (i3_a : Int) : TS := ⟨slots 55 [(1, .ptr 1 0 []), (3, .dv (.int .i64) i3_a)], [(1, .row (.pair (.int .i64) (.pair (.sl (.arr 2 (.int .i64))) (.unit))) ([o0] : List (Int × List (List Int) × Unit)))]⟩
noncomputable def K64_0 (a52 : Q64T0) (a67 : Q64T1) (N : Nat) : Kont (Int) := kont (E64 a52 a67) lv64 N c64 [1, 1, 1, 0, 1, 0] (fin TI en64 (resOf Tryd.f64) dec64)
noncomputable def R64_0 (a52 : Q64T0) (a67 : Q64T1) (N : Nat) (m : Nat) : TS → Option (Int) := loopK (den (E64 a52 a67) lv64 N (sub c64 [1, 1, 1, 0, 1, 0, 0])) (TS.norm nm64_0) (K64_0 a52 a67 N) m
def l64a (a52 : Q64T0) (a67 : Q64T1) (N : Nat) (o0 : Q64T2) : Nat → Int → Option (Int)
 | 0, _ => none
 | n + 1, i3_a => cond (decide (i3_a < (o0.2.1.length : Int))) (chk (decide (0 ≤ i3_a ∧ i3_a < (o0.2.1.length : Int))) (chk (decide (0 ≤ i3_a ∧ i3_a < (o0.2.1.length : Int))) ((a52 ((o0.2.1.getD i3_a.toNat ([(0 : Int), (0 : Int)] : List Int)).getD 0 (0 : Int)) (0 : Int) (w64 (o0.1 - (1 : Int)))).bind fun r2 =>
   cond (!r2) (some (5 : Int))
   ((a52 ((o0.2.1.getD i3_a.toNat ([(0 : Int), (0 : Int)] : List Int)).getD 1 (0 : Int)) (0 : Int) (w64 (o0.1 - (1 : Int)))).bind fun r3 =>
   cond (!r3) (some (5 : Int))
   (cond (((o0.2.1.getD i3_a.toNat ([(0 : Int), (0 : Int)] : List Int)).getD 0 (0 : Int)) == ((o0.2.1.getD i3_a.toNat ([(0 : Int), (0 : Int)] : List Int)).getD 1 (0 : Int))) (some (20 : Int))
   ((a67 o0 i3_a ((o0.2.1.getD i3_a.toNat ([(0 : Int), (0 : Int)] : List Int)).getD 0 (0 : Int)) ((o0.2.1.getD i3_a.toNat ([(0 : Int), (0 : Int)] : List Int)).getD 1 (0 : Int))).bind fun r4 =>
   cond (r4) (some (6 : Int))
   ((l64a a52 a67 N o0 n (w64 (i3_a + (1 : Int)))))))))))
   (some (0 : Int))
theorem wl64a (a52 : Q64T0) (a67 : Q64T1) (N : Nat) (o0 : Q64T2) (m : Nat) (i3_a : Int) : R64_0 a52 a67 N (m + 1) (Sl64a o0 i3_a) = cond (decide (i3_a < (o0.2.1.length : Int))) (chk (decide (0 ≤ i3_a ∧ i3_a < (o0.2.1.length : Int))) (chk (decide (0 ≤ i3_a ∧ i3_a < (o0.2.1.length : Int))) ((a52 ((o0.2.1.getD i3_a.toNat ([(0 : Int), (0 : Int)] : List Int)).getD 0 (0 : Int)) (0 : Int) (w64 (o0.1 - (1 : Int)))).bind fun r2 =>
   cond (!r2) (some (5 : Int))
   ((a52 ((o0.2.1.getD i3_a.toNat ([(0 : Int), (0 : Int)] : List Int)).getD 1 (0 : Int)) (0 : Int) (w64 (o0.1 - (1 : Int)))).bind fun r3 =>
   cond (!r3) (some (5 : Int))
   (cond (((o0.2.1.getD i3_a.toNat ([(0 : Int), (0 : Int)] : List Int)).getD 0 (0 : Int)) == ((o0.2.1.getD i3_a.toNat ([(0 : Int), (0 : Int)] : List Int)).getD 1 (0 : Int))) (some (20 : Int))
   ((a67 o0 i3_a ((o0.2.1.getD i3_a.toNat ([(0 : Int), (0 : Int)] : List Int)).getD 0 (0 : Int)) ((o0.2.1.getD i3_a.toNat ([(0 : Int), (0 : Int)] : List Int)).getD 1 (0 : Int))).bind fun r4 =>
   cond (r4) (some (6 : Int))
   ((R64_0 a52 a67 N m (Sl64a o0 (w64 (i3_a + (1 : Int))))))))))))
   (some (0 : Int)) := by kernel_rfl
theorem ql64a (a52 : Q64T0) (a67 : Q64T1) (N : Nat) (o0 : Q64T2) : ∀ (m : Nat) (i3_a : Int), R64_0 a52 a67 N m (Sl64a o0 i3_a) = l64a a52 a67 N o0 m i3_a
        | 0, _ => rfl
        | m + 1, i3_a => by rw [wl64a]; simp only [l64a, ql64a a52 a67 N o0 m]
def m64 (a52 : Q64T0) (a67 : Q64T1) (N : Nat) (o0 : Q64T2) : Option (Int) :=
   (a52 o0.1 (1 : Int) (6 : Int)).bind fun r1 =>
   cond (!r1) (some (3 : Int))
   (cond (decide ((o0.2.1.length : Int) > (15 : Int))) (some (2 : Int))
   ((l64a a52 a67 N o0 N (0 : Int))))
theorem wm64 (a52 : Q64T0) (a67 : Q64T1) (N : Nat) (o0 : Q64T2) : callF (E64 a52 a67) lv64 N en64 c64 (resOf Tryd.f64) 54 [.dv (.pair (.int .i64) (.pair (.sl (.arr 2 (.int .i64))) (.unit))) o0] [] dec64 = (a52 o0.1 (1 : Int) (6 : Int)).bind fun r1 =>
   cond (!r1) (some (3 : Int))
   (cond (decide ((o0.2.1.length : Int) > (15 : Int))) (some (2 : Int))
   ((R64_0 a52 a67 N N (Sl64a o0 (0 : Int))))) := by kernel_rfl
theorem k64 (a52 : Q64T0) (a67 : Q64T1) (N : Nat) (o0 : Q64T2) : callF (E64 a52 a67) lv64 N en64 c64 (resOf Tryd.f64) 54 [.dv (.pair (.int .i64) (.pair (.sl (.arr 2 (.int .i64))) (.unit))) o0] [] dec64 = m64 a52 a67 N o0 := by rw [wm64]; simp only [m64, ql64a]
theorem ok64 (a52 : Q64T0) (a67 : Q64T1) (h52 : FnOk Tryd.prog 52 (F52 a52)) (h67 : FnOk Tryd.prog 67 (F67 a67)) (a : (Int × List (List Int) × Unit) → Option (Int)) (h : ∀ o0 r, a o0 = some r → (∃ N, m64 a52 a67 N o0 = some r)) : FnOk Tryd.prog 64 (F64 a) := by
 intro args Of x hx
 simp only [F64] at hx
 split at hx
 ·rename_i o0
  obtain ⟨N, hN⟩ := h _ _ hx
  refine lifted (L := [(52, F52 a52), (67, F67 a67)]) (rc := nrc) (fz := nfz) (fn := Tryd.f64) (by kernel_rfl) (by kernel_rfl) (by kernel_rfl) (by kernel_rfl) rfl ?_ ((k64 a52 a67 N _).trans hN) ?_
  ·intro p hp; simp only [List.mem_cons, List.not_mem_nil, or_false] at hp; rcases hp with rfl | rfl
   ·exact h52
   ·exact h67
  ·intro l o hd
   simp only [dec64] at hd
   split at hd
   ·obtain rfl := Option.some.inj hd; exact ⟨rfl, rfl⟩
   ·cases hd
 ·cases hx
end Go.Proofs.YtmpbbkldopfkpaaDoor
