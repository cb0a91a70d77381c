import Derived.Test.YtmpbbkldopfkpaaDoorQFI
namespace Go.Proofs.YtmpbbkldopfkpaaDoor
open Go.RowKit
set_option linter.unusedVariables false
abbrev Q7T0 := (Int × List (List Int) × Unit) → (List UInt8) → Option (List UInt8 × Int)
abbrev Q7T1 := (Int × List (List Int) × Unit) → (List UInt8) → (List UInt8) → Option (List UInt8 × Int)
abbrev Q7T2 := (Int × Int × Unit) → Option (Int × List (List Int) × Unit)
abbrev Q7T3 := (List Int) → (Int × List (List Int) × Unit) → Int → Option (List UInt8)
abbrev Q7T4 := (Int × List (List Int) × Unit) → (List UInt8) → Option (List (List UInt8 × Int))
abbrev Q7T5 := (Int × List (List Int) × Unit) → (List UInt8) → (List UInt8) → Option (Bool × Int)
def E7 (a11 : Option (Bool)) (a13 : Q7T0) (a22 : Q7T1) (a26 : Q7T2) (a27 : Q7T3) (a29 : Q7T4) (a34 : Q7T5) (want0 : Bool) : Env := mkEw TI TY [(11, F11 a11), (13, F13 a13), (22, F22 a22), (26, F26 a26), (27, F27 a27), (29, F29 a29), (34, F34 a34)] nrc nfz (fun i => ([] : List (Nat × Nat)).lookup i)
noncomputable def c7 : Code := bodyOf Tryd.f7
def nm7_0 : Norm := ⟨[7, 8, 9, 10, 11, 12, 44], [7, 44], [], []⟩
def lv7 : Nat → Option Norm := norms [(6, nm7_0)]
def en7 : End := ⟨[], ⟨[168], [], [], []⟩⟩
def dec7 (want0 : Bool) (l : List TV) (o : List (Nat × TO)) : Option Unit := match l, o with | [.dv (.bool) x0], [] => chk (decide (x0 = want0)) (some ()) | _, _ => none
def Sl7a (r1 : Int × List (List Int) × Unit) (r2 : List UInt8) (r3 : List UInt8) (r4 : List UInt8 × Int) (begins12_a : Bool) (o44_a : List (List UInt8 × Int)) : TS := ⟨slots 168 [(7, .ptr 7 0 []), (8, .dv (.str) r2), (9, .dv (.str) r3), (10, .dv (.str) r4.1), (11, .dv (.int .i64) r4.2), (12, .dv (.bool) begins12_a), (44, .row 44)], [(7, .row (.pair (.int .i64) (.pair (.sl (.arr 2 (.int .i64))) (.unit))) ([r1] : List (Int × List (List Int) × Unit))), (44, .iter (.str) (.int .i64) o44_a none)]⟩
noncomputable def K7_0 (a11 : Option (Bool)) (a13 : Q7T0) (a22 : Q7T1) (a26 : Q7T2) (a27 : Q7T3) (a29 : Q7T4) (a34 : Q7T5) (want0 : Bool) (N : Nat) : Kont (Unit) := kont (E7 a11 a13 a22 a26 a27 a29 a34 want0) lv7 N c7 [1, 1, 1, 1, 1, 0, 1, 0] (fin TI en7 (resOf Tryd.f7) (dec7 want0))
noncomputable def R7_0 (a11 : Option (Bool)) (a13 : Q7T0) (a22 : Q7T1) (a26 : Q7T2) (a27 : Q7T3) (a29 : Q7T4) (a34 : Q7T5) (want0 : Bool) (N : Nat) (m : Nat) : TS → Option (Unit) := loopK (den (E7 a11 a13 a22 a26 a27 a29 a34 want0) lv7 N (sub c7 [1, 1, 1, 1, 1, 0, 1, 0, 0])) (TS.norm nm7_0) (K7_0 a11 a13 a22 a26 a27 a29 a34 want0 N) m
def l7a (a11 : Option (Bool)) (a13 : Q7T0) (a22 : Q7T1) (a26 : Q7T2) (a27 : Q7T3) (a29 : Q7T4) (a34 : Q7T5) (want0 : Bool) (N : Nat) (r1 : Int × List (List Int) × Unit) (r2 : List UInt8) (r3 : List UInt8) (r4 : List UInt8 × Int) : Nat → Bool → (List (List UInt8 × Int)) → Option (Unit)
 | 0, _, _ => none
 | n + 1, begins12_a, o44_a => eachK o44_a (cond (!begins12_a) (cond (r4.2 == (14 : Int)) (cond (r4.1 == ([] : List UInt8)) ((a11).bind fun r8 =>
   chk (decide (r8 = want0)) (some ()))
   (chk (decide (false = want0)) (some ())))
   (chk (decide (false = want0)) (some ())))
   ((a13 r1 r3).bind fun r9 =>
   chk (decide (r2.length + r3.length ≤ 9223372036854775807)) ((a22 r1 r2 (r2 ++ r3)).bind fun r10 =>
   (a22 r1 r3 r3).bind fun r11 =>
   (a22 r1 ([] : List UInt8) r3).bind fun r12 =>
   chk (decide (r2.length + r4.1.length ≤ 9223372036854775807)) ((a34 r1 (r2 ++ r4.1) r3).bind fun r13 =>
   cond (r9.2 == (0 : Int)) (cond (r10.2 == (0 : Int)) (cond (r11.2 == (0 : Int)) (cond (r12.2 == (0 : Int)) (cond (r13.2 == (0 : Int)) (cond (r10.1 == r9.1) (cond (r11.1 == ([] : List UInt8)) (cond (r12.1 == r9.1) (cond (r13.1) ((a11).bind fun r14 =>
   chk (decide (r14 = want0)) (some ()))
   (chk (decide (false = want0)) (some ())))
   (chk (decide (false = want0)) (some ())))
   (chk (decide (false = want0)) (some ())))
   (chk (decide (false = want0)) (some ())))
   (chk (decide (false = want0)) (some ())))
   (chk (decide (false = want0)) (some ())))
   (chk (decide (false = want0)) (some ())))
   (chk (decide (false = want0)) (some ())))
   (chk (decide (false = want0)) (some ())))))) (fun h6 => fun g7 =>
   cond (decide ((h6.1.length : Int) < (r2.length : Int))) ((l7a a11 a13 a22 a26 a27 a29 a34 want0 N r1 r2 r3 r4 n begins12_a g7))
   (chk (decide (0 ≤ (r2.length : Int) ∧ (r2.length : Int) ≤ (h6.1.length : Int))) (cond (!((h6.1.take ((r2.length : Int).toNat)) == r2)) ((l7a a11 a13 a22 a26 a27 a29 a34 want0 N r1 r2 r3 r4 n begins12_a g7))
   (chk (decide (0 ≤ (r2.length : Int) ∧ (r2.length : Int) ≤ (h6.1.length : Int))) ((a34 r1 r4.1 (h6.1.drop ((r2.length : Int).toNat))).bind fun r15 =>
   cond (r4.2 != (0 : Int)) (chk (decide (false = want0)) (some ()))
   (cond (r15.2 != (0 : Int)) (chk (decide (false = want0)) (some ()))
   (cond (!r15.1) (chk (decide (false = want0)) (some ()))
   ((l7a a11 a13 a22 a26 a27 a29 a34 want0 N r1 r2 r3 r4 n true g7)))))))))
theorem wl7a (a11 : Option (Bool)) (a13 : Q7T0) (a22 : Q7T1) (a26 : Q7T2) (a27 : Q7T3) (a29 : Q7T4) (a34 : Q7T5) (want0 : Bool) (N : Nat) (r1 : Int × List (List Int) × Unit) (r2 : List UInt8) (r3 : List UInt8) (r4 : List UInt8 × Int) (m : Nat) (begins12_a : Bool) (o44_a : List (List UInt8 × Int)) : R7_0 a11 a13 a22 a26 a27 a29 a34 want0 N (m + 1) (Sl7a r1 r2 r3 r4 begins12_a o44_a) = eachK o44_a (cond (!begins12_a) (cond (r4.2 == (14 : Int)) (cond (r4.1 == ([] : List UInt8)) ((a11).bind fun r8 =>
   chk (decide (r8 = want0)) (some ()))
   (chk (decide (false = want0)) (some ())))
   (chk (decide (false = want0)) (some ())))
   ((a13 r1 r3).bind fun r9 =>
   chk (decide (r2.length + r3.length ≤ 9223372036854775807)) ((a22 r1 r2 (r2 ++ r3)).bind fun r10 =>
   (a22 r1 r3 r3).bind fun r11 =>
   (a22 r1 ([] : List UInt8) r3).bind fun r12 =>
   chk (decide (r2.length + r4.1.length ≤ 9223372036854775807)) ((a34 r1 (r2 ++ r4.1) r3).bind fun r13 =>
   cond (r9.2 == (0 : Int)) (cond (r10.2 == (0 : Int)) (cond (r11.2 == (0 : Int)) (cond (r12.2 == (0 : Int)) (cond (r13.2 == (0 : Int)) (cond (r10.1 == r9.1) (cond (r11.1 == ([] : List UInt8)) (cond (r12.1 == r9.1) (cond (r13.1) ((a11).bind fun r14 =>
   chk (decide (r14 = want0)) (some ()))
   (chk (decide (false = want0)) (some ())))
   (chk (decide (false = want0)) (some ())))
   (chk (decide (false = want0)) (some ())))
   (chk (decide (false = want0)) (some ())))
   (chk (decide (false = want0)) (some ())))
   (chk (decide (false = want0)) (some ())))
   (chk (decide (false = want0)) (some ())))
   (chk (decide (false = want0)) (some ())))
   (chk (decide (false = want0)) (some ())))))) (fun h6 => fun g7 =>
   cond (decide ((h6.1.length : Int) < (r2.length : Int))) ((R7_0 a11 a13 a22 a26 a27 a29 a34 want0 N m (Sl7a r1 r2 r3 r4 begins12_a g7)))
   (chk (decide (0 ≤ (r2.length : Int) ∧ (r2.length : Int) ≤ (h6.1.length : Int))) (cond (!((h6.1.take ((r2.length : Int).toNat)) == r2)) ((R7_0 a11 a13 a22 a26 a27 a29 a34 want0 N m (Sl7a r1 r2 r3 r4 begins12_a g7)))
   (chk (decide (0 ≤ (r2.length : Int) ∧ (r2.length : Int) ≤ (h6.1.length : Int))) ((a34 r1 r4.1 (h6.1.drop ((r2.length : Int).toNat))).bind fun r15 =>
   cond (r4.2 != (0 : Int)) (chk (decide (false = want0)) (some ()))
   (cond (r15.2 != (0 : Int)) (chk (decide (false = want0)) (some ()))
   (cond (!r15.1) (chk (decide (false = want0)) (some ()))
   ((R7_0 a11 a13 a22 a26 a27 a29 a34 want0 N m (Sl7a r1 r2 r3 r4 true g7)))))))))) := by kernel_rfl
theorem ql7a (a11 : Option (Bool)) (a13 : Q7T0) (a22 : Q7T1) (a26 : Q7T2) (a27 : Q7T3) (a29 : Q7T4) (a34 : Q7T5) (want0 : Bool) (N : Nat) (r1 : Int × List (List Int) × Unit) (r2 : List UInt8) (r3 : List UInt8) (r4 : List UInt8 × Int) : ∀ (m : Nat) (begins12_a : Bool) (o44_a : List (List UInt8 × Int)), R7_0 a11 a13 a22 a26 a27 a29 a34 want0 N m (Sl7a r1 r2 r3 r4 begins12_a o44_a) = l7a a11 a13 a22 a26 a27 a29 a34 want0 N r1 r2 r3 r4 m begins12_a o44_a
        | 0, _, _ => rfl
        | m + 1, begins12_a, o44_a => by rw [wl7a]; simp only [l7a, ql7a a11 a13 a22 a26 a27 a29 a34 want0 N r1 r2 r3 r4 m]
def m7 (a11 : Option (Bool)) (a13 : Q7T0) (a22 : Q7T1) (a26 : Q7T2) (a27 : Q7T3) (a29 : Q7T4) (a34 : Q7T5) (want0 : Bool) (N : Nat) (d0 : Int × Int × Unit) (p1 : List Int) (qx2 : List Int) : Option (Unit) :=
   (a26 d0).bind fun r1 =>
   (a27 p1 r1 (3 : Int)).bind fun r2 =>
   (a27 qx2 r1 (7 : Int)).bind fun r3 =>
   (a22 r1 r2 r3).bind fun r4 =>
   (a29 r1 r3).bind fun r5 =>
   (l7a a11 a13 a22 a26 a27 a29 a34 want0 N r1 r2 r3 r4 N false r5)
theorem wm7 (a11 : Option (Bool)) (a13 : Q7T0) (a22 : Q7T1) (a26 : Q7T2) (a27 : Q7T3) (a29 : Q7T4) (a34 : Q7T5) (want0 : Bool) (N : Nat) (d0 : Int × Int × Unit) (p1 : List Int) (qx2 : List Int) : callF (E7 a11 a13 a22 a26 a27 a29 a34 want0) lv7 N en7 c7 (resOf Tryd.f7) 165 [.dv (.pair (.int .u8) (.pair (.int .u8) (.unit))) d0, .dv (.sl (.int .u8)) p1, .dv (.sl (.int .u8)) qx2] [] (dec7 want0) = (a26 d0).bind fun r1 =>
   (a27 p1 r1 (3 : Int)).bind fun r2 =>
   (a27 qx2 r1 (7 : Int)).bind fun r3 =>
   (a22 r1 r2 r3).bind fun r4 =>
   (a29 r1 r3).bind fun r5 =>
   (R7_0 a11 a13 a22 a26 a27 a29 a34 want0 N N (Sl7a r1 r2 r3 r4 false r5)) := by kernel_rfl
theorem k7 (a11 : Option (Bool)) (a13 : Q7T0) (a22 : Q7T1) (a26 : Q7T2) (a27 : Q7T3) (a29 : Q7T4) (a34 : Q7T5) (want0 : Bool) (N : Nat) (d0 : Int × Int × Unit) (p1 : List Int) (qx2 : List Int) : callF (E7 a11 a13 a22 a26 a27 a29 a34 want0) lv7 N en7 c7 (resOf Tryd.f7) 165 [.dv (.pair (.int .u8) (.pair (.int .u8) (.unit))) d0, .dv (.sl (.int .u8)) p1, .dv (.sl (.int .u8)) qx2] [] (dec7 want0) = m7 a11 a13 a22 a26 a27 a29 a34 want0 N d0 p1 qx2 := by rw [wm7]; simp only [m7, ql7a]
theorem ok7 (a11 : Option (Bool)) (a13 : Q7T0) (a22 : Q7T1) (a26 : Q7T2) (a27 : Q7T3) (a29 : Q7T4) (a34 : Q7T5) (h11 : FnOk Tryd.prog 11 (F11 a11)) (h13 : FnOk Tryd.prog 13 (F13 a13)) (h22 : FnOk Tryd.prog 22 (F22 a22)) (h26 : FnOk Tryd.prog 26 (F26 a26)) (h27 : FnOk Tryd.prog 27 (F27 a27)) (h29 : FnOk Tryd.prog 29 (F29 a29)) (h34 : FnOk Tryd.prog 34 (F34 a34)) (a : (Int × Int × Unit) → (List Int) → (List Int) → Option (Bool)) (h : ∀ d0 p1 qx2 r, a d0 p1 qx2 = some r → ∃ N, m7 a11 a13 a22 a26 a27 a29 a34 r N d0 p1 qx2 = some ()) : FnOk Tryd.prog 7 (F7 a) := by
 intro args Of r hx
 simp only [F7] at hx
 split at hx
 ·rename_i d0 p1 qx2
  obtain ⟨N, hN⟩ := h _ _ _ _ hx
  refine liftedW (L := [(11, F11 a11), (13, F13 a13), (22, F22 a22), (26, F26 a26), (27, F27 a27), (29, F29 a29), (34, F34 a34)]) (rc := nrc) (fz := nfz) (tw := fun i => ([] : List (Nat × Nat)).lookup i) (fn := Tryd.f7) (by kernel_rfl) (by kernel_rfl) (by kernel_rfl) (by kernel_rfl) rfl ?_ ((k7 a11 a13 a22 a26 a27 a29 a34 r N _ _ _).trans hN) ?_
  ·intro p hp; simp only [List.mem_cons, List.not_mem_nil, or_false] at hp; rcases hp with rfl | rfl | rfl | rfl | rfl | rfl | rfl
   ·exact h11
   ·exact h13
   ·exact h22
   ·exact h26
   ·exact h27
   ·exact h29
   ·exact h34
  ·intro l o hd
   simp only [dec7] at hd
   split at hd
   ·have hq := (chk_some hd).1
    simp only [decide_eq_true_eq] at hq
    subst hq
    exact ⟨rfl, rfl⟩
   ·cases hd
 ·cases hx
end Go.Proofs.YtmpbbkldopfkpaaDoor
