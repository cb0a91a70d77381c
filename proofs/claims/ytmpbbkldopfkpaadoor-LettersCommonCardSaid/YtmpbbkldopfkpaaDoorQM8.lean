import Derived.Test.YtmpbbkldopfkpaaDoorQFI
namespace Go.Proofs.YtmpbbkldopfkpaaDoor
open Go.RowKit
set_option linter.unusedVariables false
abbrev Q8T0 := (Int × List (List Int) × Unit) → (List UInt8) → (List UInt8) → Option (List UInt8 × Int)
abbrev Q8T1 := (Int × Int × Unit) → Option (Int × List (List Int) × Unit)
abbrev Q8T2 := (List Int) → (Int × List (List Int) × Unit) → Int → Option (List UInt8)
abbrev Q8T3 := (List UInt8) → (List (Int × List (List Int) × Unit)) → Option (List (Int × List (List Int) × Unit) × List (List UInt8 × Bool))
def E8 (a11 : Option (Bool)) (a22 : Q8T0) (a24 : Q8T0) (a26 : Q8T1) (a27 : Q8T2) (a35c : Q8T3) (want0 : Bool) : Env := mkEw TI TY [(11, F11 a11), (22, F22 a22), (24, F24 a24), (26, F26 a26), (27, F27 a27), (35, F35c a35c)] nrc nfz (fun i => ([] : List (Nat × Nat)).lookup i)
noncomputable def c8 : Code := bodyOf Tryd.f8
def nm8_0 : Norm := ⟨[10, 19, 20, 21, 116], [2080007, 2110007, 2140007, 116], [], []⟩
def lv8 : Nat → Option Norm := norms [(15, nm8_0)]
def en8 : End := ⟨[], ⟨[141], [], [], []⟩⟩
def dec8 (want0 : Bool) (l : List TV) (o : List (Nat × TO)) : Option Unit := match l, o with | [.dv (.bool) x0], [] => chk (decide (x0 = want0)) (some ()) | _, _ => none
def Sl8a (r4 : List UInt8 × Int) (r9 : List (Int × List (List Int) × Unit) × List (List UInt8 × Bool)) (r10 : List (Int × List (List Int) × Unit) × List (List UInt8 × Bool)) (r11 : List (Int × List (List Int) × Unit) × List (List UInt8 × Bool)) (o116_a : List (List UInt8 × Bool)) : TS := ⟨slots 141 [(10, .dv (.str) r4.1), (19, .row 2080007), (20, .row 2110007), (21, .row 2140007), (116, .row 116)], [(2080007, .fmp (.str) (.bool) r9.2), (2110007, .fmp (.str) (.bool) r10.2), (2140007, .fmp (.str) (.bool) r11.2), (116, .iter (.str) (.bool) o116_a none)]⟩
noncomputable def K8_0 (a11 : Option (Bool)) (a22 : Q8T0) (a24 : Q8T0) (a26 : Q8T1) (a27 : Q8T2) (a35c : Q8T3) (want0 : Bool) (N : Nat) : Kont (Unit) := kont (E8 a11 a22 a24 a26 a27 a35c want0) lv8 N c8 [1, 1, 1, 1, 1, 1, 1, 1, 1, 1, 1, 1, 0, 1, 0] (fin TI en8 (resOf Tryd.f8) (dec8 want0))
noncomputable def R8_0 (a11 : Option (Bool)) (a22 : Q8T0) (a24 : Q8T0) (a26 : Q8T1) (a27 : Q8T2) (a35c : Q8T3) (want0 : Bool) (N : Nat) (m : Nat) : TS → Option (Unit) := loopK (den (E8 a11 a22 a24 a26 a27 a35c want0) lv8 N (sub c8 [1, 1, 1, 1, 1, 1, 1, 1, 1, 1, 1, 1, 0, 1, 0, 0])) (TS.norm nm8_0) (K8_0 a11 a22 a24 a26 a27 a35c want0 N) m
def l8a (a11 : Option (Bool)) (a22 : Q8T0) (a24 : Q8T0) (a26 : Q8T1) (a27 : Q8T2) (a35c : Q8T3) (want0 : Bool) (N : Nat) (r4 : List UInt8 × Int) (r9 : List (Int × List (List Int) × Unit) × List (List UInt8 × Bool)) (r10 : List (Int × List (List Int) × Unit) × List (List UInt8 × Bool)) (r11 : List (Int × List (List Int) × Unit) × List (List UInt8 × Bool)) : Nat → (List (List UInt8 × Bool)) → Option (Unit)
 | 0, _ => none
 | n + 1, o116_a => eachK o116_a (chk (decide ((r9.2.filter fun p => DT.beq (.str) r4.1 p.1).length ≤ 1)) (cond ((mget (kt := .str) (vt := .bool) r9.2 r4.1).getD false) (chk (decide ((r10.2.filter fun p => DT.beq (.str) r4.1 p.1).length ≤ 1)) (cond ((mget (kt := .str) (vt := .bool) r10.2 r4.1).getD false) ((a11).bind fun r14 =>
   chk (decide (r14 = want0)) (some ()))
   (chk (decide (false = want0)) (some ()))))
   (chk (decide (false = want0)) (some ())))) (fun h12 => fun g13 =>
   chk (decide ((r10.2.filter fun p => DT.beq (.str) h12.1 p.1).length ≤ 1)) (cond ((mget (kt := .str) (vt := .bool) r10.2 h12.1).getD false) (chk (decide ((r11.2.filter fun p => DT.beq (.str) h12.1 p.1).length ≤ 1)) (cond (!((mget (kt := .str) (vt := .bool) r11.2 h12.1).getD false)) (chk (decide (false = want0)) (some ()))
   ((l8a a11 a22 a24 a26 a27 a35c want0 N r4 r9 r10 r11 n g13))))
   ((l8a a11 a22 a24 a26 a27 a35c want0 N r4 r9 r10 r11 n g13))))
theorem wl8a (a11 : Option (Bool)) (a22 : Q8T0) (a24 : Q8T0) (a26 : Q8T1) (a27 : Q8T2) (a35c : Q8T3) (want0 : Bool) (N : Nat) (r4 : List UInt8 × Int) (r9 : List (Int × List (List Int) × Unit) × List (List UInt8 × Bool)) (r10 : List (Int × List (List Int) × Unit) × List (List UInt8 × Bool)) (r11 : List (Int × List (List Int) × Unit) × List (List UInt8 × Bool)) (m : Nat) (o116_a : List (List UInt8 × Bool)) : R8_0 a11 a22 a24 a26 a27 a35c want0 N (m + 1) (Sl8a r4 r9 r10 r11 o116_a) = eachK o116_a (chk (decide ((r9.2.filter fun p => DT.beq (.str) r4.1 p.1).length ≤ 1)) (cond ((mget (kt := .str) (vt := .bool) r9.2 r4.1).getD false) (chk (decide ((r10.2.filter fun p => DT.beq (.str) r4.1 p.1).length ≤ 1)) (cond ((mget (kt := .str) (vt := .bool) r10.2 r4.1).getD false) ((a11).bind fun r14 =>
   chk (decide (r14 = want0)) (some ()))
   (chk (decide (false = want0)) (some ()))))
   (chk (decide (false = want0)) (some ())))) (fun h12 => fun g13 =>
   chk (decide ((r10.2.filter fun p => DT.beq (.str) h12.1 p.1).length ≤ 1)) (cond ((mget (kt := .str) (vt := .bool) r10.2 h12.1).getD false) (chk (decide ((r11.2.filter fun p => DT.beq (.str) h12.1 p.1).length ≤ 1)) (cond (!((mget (kt := .str) (vt := .bool) r11.2 h12.1).getD false)) (chk (decide (false = want0)) (some ()))
   ((R8_0 a11 a22 a24 a26 a27 a35c want0 N m (Sl8a r4 r9 r10 r11 g13)))))
   ((R8_0 a11 a22 a24 a26 a27 a35c want0 N m (Sl8a r4 r9 r10 r11 g13))))) := by kernel_rfl
theorem ql8a (a11 : Option (Bool)) (a22 : Q8T0) (a24 : Q8T0) (a26 : Q8T1) (a27 : Q8T2) (a35c : Q8T3) (want0 : Bool) (N : Nat) (r4 : List UInt8 × Int) (r9 : List (Int × List (List Int) × Unit) × List (List UInt8 × Bool)) (r10 : List (Int × List (List Int) × Unit) × List (List UInt8 × Bool)) (r11 : List (Int × List (List Int) × Unit) × List (List UInt8 × Bool)) : ∀ (m : Nat) (o116_a : List (List UInt8 × Bool)), R8_0 a11 a22 a24 a26 a27 a35c want0 N m (Sl8a r4 r9 r10 r11 o116_a) = l8a a11 a22 a24 a26 a27 a35c want0 N r4 r9 r10 r11 m o116_a
        | 0, _ => rfl
        | m + 1, o116_a => by rw [wl8a]; simp only [l8a, ql8a a11 a22 a24 a26 a27 a35c want0 N r4 r9 r10 r11 m]
def m8 (a11 : Option (Bool)) (a22 : Q8T0) (a24 : Q8T0) (a26 : Q8T1) (a27 : Q8T2) (a35c : Q8T3) (want0 : Bool) (N : Nat) (d0 : Int × Int × Unit) (p1 : List Int) (qx2 : List Int) : Option (Unit) :=
   (a26 d0).bind fun r1 =>
   (a27 p1 r1 (6 : Int)).bind fun r2 =>
   (a27 qx2 r1 (6 : Int)).bind fun r3 =>
   (a24 r1 r2 r3).bind fun r4 =>
   (a24 r1 r3 r2).bind fun r5 =>
   cond (r4.2 != (0 : Int)) (chk (decide (false = want0)) (some ()))
   (cond (r5.2 != (0 : Int)) (chk (decide (false = want0)) (some ()))
   (cond (!(r4.1 == r5.1)) (chk (decide (false = want0)) (some ()))
   (cond (decide ((r4.1.length : Int) > (r2.length : Int))) (chk (decide (false = want0)) (some ()))
   (cond (decide ((r4.1.length : Int) > (r3.length : Int))) (chk (decide (false = want0)) (some ()))
   ((a22 r1 r4.1 r2).bind fun r6 =>
   (a22 r1 r4.1 r3).bind fun r7 =>
   (a24 r1 r6.1 r7.1).bind fun r8 =>
   cond (r6.2 != (0 : Int)) (chk (decide (false = want0)) (some ()))
   (cond (r7.2 != (0 : Int)) (chk (decide (false = want0)) (some ()))
   (cond (r8.2 != (0 : Int)) (chk (decide (false = want0)) (some ()))
   (cond (!(r8.1 == ([] : List UInt8))) (chk (decide (false = want0)) (some ()))
   ((a35c r2 ([r1] : List (Int × List (List Int) × Unit))).bind fun r9 =>
   (a35c r3 r9.1).bind fun r10 =>
   (a35c r4.1 r10.1).bind fun r11 =>
   (l8a a11 a22 a24 a26 a27 a35c want0 N r4 r9 r10 r11 N r9.2))))))))))
theorem wm8 (a11 : Option (Bool)) (a22 : Q8T0) (a24 : Q8T0) (a26 : Q8T1) (a27 : Q8T2) (a35c : Q8T3) (want0 : Bool) (N : Nat) (d0 : Int × Int × Unit) (p1 : List Int) (qx2 : List Int) : callF (E8 a11 a22 a24 a26 a27 a35c want0) lv8 N en8 c8 (resOf Tryd.f8) 138 [.dv (.pair (.int .u8) (.pair (.int .u8) (.unit))) d0, .dv (.sl (.int .u8)) p1, .dv (.sl (.int .u8)) qx2] [] (dec8 want0) = (a26 d0).bind fun r1 =>
   (a27 p1 r1 (6 : Int)).bind fun r2 =>
   (a27 qx2 r1 (6 : Int)).bind fun r3 =>
   (a24 r1 r2 r3).bind fun r4 =>
   (a24 r1 r3 r2).bind fun r5 =>
   cond (r4.2 != (0 : Int)) (chk (decide (false = want0)) (some ()))
   (cond (r5.2 != (0 : Int)) (chk (decide (false = want0)) (some ()))
   (cond (!(r4.1 == r5.1)) (chk (decide (false = want0)) (some ()))
   (cond (decide ((r4.1.length : Int) > (r2.length : Int))) (chk (decide (false = want0)) (some ()))
   (cond (decide ((r4.1.length : Int) > (r3.length : Int))) (chk (decide (false = want0)) (some ()))
   ((a22 r1 r4.1 r2).bind fun r6 =>
   (a22 r1 r4.1 r3).bind fun r7 =>
   (a24 r1 r6.1 r7.1).bind fun r8 =>
   cond (r6.2 != (0 : Int)) (chk (decide (false = want0)) (some ()))
   (cond (r7.2 != (0 : Int)) (chk (decide (false = want0)) (some ()))
   (cond (r8.2 != (0 : Int)) (chk (decide (false = want0)) (some ()))
   (cond (!(r8.1 == ([] : List UInt8))) (chk (decide (false = want0)) (some ()))
   ((a35c r2 ([r1] : List (Int × List (List Int) × Unit))).bind fun r9 =>
   (a35c r3 r9.1).bind fun r10 =>
   (a35c r4.1 r10.1).bind fun r11 =>
   (R8_0 a11 a22 a24 a26 a27 a35c want0 N N (Sl8a r4 r9 r10 r11 r9.2))))))))))) := by kernel_rfl
theorem k8 (a11 : Option (Bool)) (a22 : Q8T0) (a24 : Q8T0) (a26 : Q8T1) (a27 : Q8T2) (a35c : Q8T3) (want0 : Bool) (N : Nat) (d0 : Int × Int × Unit) (p1 : List Int) (qx2 : List Int) : callF (E8 a11 a22 a24 a26 a27 a35c want0) lv8 N en8 c8 (resOf Tryd.f8) 138 [.dv (.pair (.int .u8) (.pair (.int .u8) (.unit))) d0, .dv (.sl (.int .u8)) p1, .dv (.sl (.int .u8)) qx2] [] (dec8 want0) = m8 a11 a22 a24 a26 a27 a35c want0 N d0 p1 qx2 := by rw [wm8]; simp only [m8, ql8a]
theorem ok8 (a11 : Option (Bool)) (a22 : Q8T0) (a24 : Q8T0) (a26 : Q8T1) (a27 : Q8T2) (a35c : Q8T3) (h11 : FnOk Tryd.prog 11 (F11 a11)) (h22 : FnOk Tryd.prog 22 (F22 a22)) (h24 : FnOk Tryd.prog 24 (F24 a24)) (h26 : FnOk Tryd.prog 26 (F26 a26)) (h27 : FnOk Tryd.prog 27 (F27 a27)) (h35c : FnOk Tryd.prog 35 (F35c a35c)) (a : (Int × Int × Unit) → (List Int) → (List Int) → Option (Bool)) (h : ∀ d0 p1 qx2 r, a d0 p1 qx2 = some r → ∃ N, m8 a11 a22 a24 a26 a27 a35c r N d0 p1 qx2 = some ()) : FnOk Tryd.prog 8 (F8 a) := by
 intro args Of r hx
 simp only [F8] at hx
 split at hx
 ·rename_i d0 p1 qx2
  obtain ⟨N, hN⟩ := h _ _ _ _ hx
  refine liftedW (L := [(11, F11 a11), (22, F22 a22), (24, F24 a24), (26, F26 a26), (27, F27 a27), (35, F35c a35c)]) (rc := nrc) (fz := nfz) (tw := fun i => ([] : List (Nat × Nat)).lookup i) (fn := Tryd.f8) (by kernel_rfl) (by kernel_rfl) (by kernel_rfl) (by kernel_rfl) rfl ?_ ((k8 a11 a22 a24 a26 a27 a35c r N _ _ _).trans hN) ?_
  ·intro p hp; simp only [List.mem_cons, List.not_mem_nil, or_false] at hp; rcases hp with rfl | rfl | rfl | rfl | rfl | rfl
   ·exact h11
   ·exact h22
   ·exact h24
   ·exact h26
   ·exact h27
   ·exact h35c
  ·intro l o hd
   simp only [dec8] at hd
   split at hd
   ·have hq := (chk_some hd).1
    simp only [decide_eq_true_eq] at hq
    subst hq
    exact ⟨rfl, rfl⟩
   ·cases hd
 ·cases hx
end Go.Proofs.YtmpbbkldopfkpaaDoor
