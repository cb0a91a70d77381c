import Derived.Test.YtmpbbkldopfkpaaDoorQFI
namespace Go.Proofs.YtmpbbkldopfkpaaDoor
open Go.RowKit
set_option linter.unusedVariables false
abbrev Q9T0 := (Int × List (List Int) × Unit) → (List UInt8) → Option (Int × Int)
abbrev Q9T1 := (Int × Int × Unit) → Option (Int × List (List Int) × Unit)
abbrev Q9T2 := (List Int) → (Int × List (List Int) × Unit) → Int → Option (List UInt8)
abbrev Q9T3 := (Int × List (List Int) × Unit) → (List UInt8) → (List Int) → Option (List UInt8)
abbrev Q9T4 := (List UInt8) → Int → Int → Option (List UInt8)
abbrev Q9T5 := (Int × List (List Int) × Unit) → (List UInt8) → (List UInt8) → Option (Bool × Int)
def E9 (a11 : Option (Bool)) (a18 : Q9T0) (a26 : Q9T1) (a27 : Q9T2) (a28 : Q9T3) (a32 : Q9T4) (a34 : Q9T5) : Env := mkE TI TY [(11, F11 a11), (18, F18 a18), (26, F26 a26), (27, F27 a27), (28, F28 a28), (32, F32 a32), (34, F34 a34)] nrc nfz
noncomputable def c9 : Code := bodyOf Tryd.f9
def nm9_0 : Norm := ⟨[15, 17, 26, 28, 29], [], [], []⟩
def lv9 : Nat → Option Norm := norms [(15, nm9_0)]
def en9 : End := ⟨[], ⟨[153], [], [], []⟩⟩
def dec9 (l : List TV) (o : List (Nat × TO)) : Option (Bool) := match l, o with | [.dv (.bool) x0], [] => some (x0) | _, _ => none
def Sl9a (r5 : List UInt8) (r7 : List UInt8) (r12 : Bool × Int) (even28_a : Bool) (k29_a : Int) : TS := ⟨slots 153 [(15, .dv (.str) r5), (17, .dv (.str) r7), (26, .dv (.bool) r12.1), (28, .dv (.bool) even28_a), (29, .dv (.int .u8) k29_a)], []⟩
noncomputable def K9_0 (a11 : Option (Bool)) (a18 : Q9T0) (a26 : Q9T1) (a27 : Q9T2) (a28 : Q9T3) (a32 : Q9T4) (a34 : Q9T5) (N : Nat) : Kont (Bool) := kont (E9 a11 a18 a26 a27 a28 a32 a34) lv9 N c9 [1, 1, 1, 1, 1, 1, 1, 1, 1, 1, 1, 1, 1, 0, 1, 0] (fin TI en9 (resOf Tryd.f9) dec9)
noncomputable def R9_0 (a11 : Option (Bool)) (a18 : Q9T0) (a26 : Q9T1) (a27 : Q9T2) (a28 : Q9T3) (a32 : Q9T4) (a34 : Q9T5) (N : Nat) (m : Nat) : TS → Option (Bool) := loopK (den (E9 a11 a18 a26 a27 a28 a32 a34) lv9 N (sub c9 [1, 1, 1, 1, 1, 1, 1, 1, 1, 1, 1, 1, 1, 0, 1, 0, 0])) (TS.norm nm9_0) (K9_0 a11 a18 a26 a27 a28 a32 a34 N) m
def l9a (a11 : Option (Bool)) (a18 : Q9T0) (a26 : Q9T1) (a27 : Q9T2) (a28 : Q9T3) (a32 : Q9T4) (a34 : Q9T5) (N : Nat) (r5 : List UInt8) (r7 : List UInt8) (r12 : Bool × Int) : Nat → Bool → Int → Option (Bool)
 | 0, _, _ => none
 | n + 1, even28_a, k29_a => cond (decide (k29_a < (101 : Int))) (cond (even28_a) ((a32 r5 k29_a k29_a).bind fun r13 =>
   (a32 r7 k29_a k29_a).bind fun r14 =>
   (l9a a11 a18 a26 a27 a28 a32 a34 N r5 r7 r12 n (r13 == r14) (IntKind.wrap .u8 (k29_a + (1 : Int)))))
   ((l9a a11 a18 a26 a27 a28 a32 a34 N r5 r7 r12 n false (IntKind.wrap .u8 (k29_a + (1 : Int))))))
   (cond (r12.1 == even28_a) ((a11).bind fun r15 =>
   some r15)
   (some false))
theorem wl9a (a11 : Option (Bool)) (a18 : Q9T0) (a26 : Q9T1) (a27 : Q9T2) (a28 : Q9T3) (a32 : Q9T4) (a34 : Q9T5) (N : Nat) (r5 : List UInt8) (r7 : List UInt8) (r12 : Bool × Int) (m : Nat) (even28_a : Bool) (k29_a : Int) : R9_0 a11 a18 a26 a27 a28 a32 a34 N (m + 1) (Sl9a r5 r7 r12 even28_a k29_a) = cond (decide (k29_a < (101 : Int))) (cond (even28_a) ((a32 r5 k29_a k29_a).bind fun r13 =>
   (a32 r7 k29_a k29_a).bind fun r14 =>
   (R9_0 a11 a18 a26 a27 a28 a32 a34 N m (Sl9a r5 r7 r12 (r13 == r14) (IntKind.wrap .u8 (k29_a + (1 : Int))))))
   ((R9_0 a11 a18 a26 a27 a28 a32 a34 N m (Sl9a r5 r7 r12 false (IntKind.wrap .u8 (k29_a + (1 : Int)))))))
   (cond (r12.1 == even28_a) ((a11).bind fun r15 =>
   some r15)
   (some false)) := by kernel_rfl
theorem ql9a (a11 : Option (Bool)) (a18 : Q9T0) (a26 : Q9T1) (a27 : Q9T2) (a28 : Q9T3) (a32 : Q9T4) (a34 : Q9T5) (N : Nat) (r5 : List UInt8) (r7 : List UInt8) (r12 : Bool × Int) : ∀ (m : Nat) (even28_a : Bool) (k29_a : Int), R9_0 a11 a18 a26 a27 a28 a32 a34 N m (Sl9a r5 r7 r12 even28_a k29_a) = l9a a11 a18 a26 a27 a28 a32 a34 N r5 r7 r12 m even28_a k29_a
        | 0, _, _ => rfl
        | m + 1, even28_a, k29_a => by rw [wl9a]; simp only [l9a, ql9a a11 a18 a26 a27 a28 a32 a34 N r5 r7 r12 m]
def m9 (a11 : Option (Bool)) (a18 : Q9T0) (a26 : Q9T1) (a27 : Q9T2) (a28 : Q9T3) (a32 : Q9T4) (a34 : Q9T5) (N : Nat) (d0 : Int × Int × Unit) (bit1 : Int) (p2 : List Int) (qx3 : List Int) (by4 : List Int) : Option (Bool) :=
   (a26 d0).bind fun r1 =>
   chk (decide (0 ≤ Int.tmod bit1 (6 : Int))) ((a26 (d0.1, (bOr .u8 d0.2.1 (IntKind.wrap .u8 ((1 : Int) * 2 ^ min (Int.toNat (Int.tmod bit1 (6 : Int))) 8)), ()))).bind fun r2 =>
   (a26 (d0.1, ((0 : Int), ()))).bind fun r3 =>
   (a26 (d0.1, ((255 : Int), ()))).bind fun r4 =>
   (a27 p2 r1 (10 : Int)).bind fun r5 =>
   (a28 r1 r5 by4).bind fun r6 =>
   (a27 qx3 r1 (10 : Int)).bind fun r7 =>
   (a34 r2 r5 r6).bind fun r8 =>
   (a18 r1 r5).bind fun r9 =>
   (a18 r2 r5).bind fun r10 =>
   (a34 r3 r5 r7).bind fun r11 =>
   (a34 r4 r5 r7).bind fun r12 =>
   cond (r8.2 != (0 : Int)) (some false)
   (cond (r9.2 != (0 : Int)) (some false)
   (cond (r10.2 != (0 : Int)) (some false)
   (cond (r11.2 != (0 : Int)) (some false)
   (cond (r12.2 != (0 : Int)) (some false)
   (cond (!r8.1) (some false)
   (cond (decide (r9.1 < (1 : Int))) (some false)
   (cond (decide (r10.1 < r9.1)) (some false)
   (cond (r11.1 != (r5 == r7)) (some false)
   ((l9a a11 a18 a26 a27 a28 a32 a34 N r5 r7 r12 N true (97 : Int))))))))))))
theorem wm9 (a11 : Option (Bool)) (a18 : Q9T0) (a26 : Q9T1) (a27 : Q9T2) (a28 : Q9T3) (a32 : Q9T4) (a34 : Q9T5) (N : Nat) (d0 : Int × Int × Unit) (bit1 : Int) (p2 : List Int) (qx3 : List Int) (by4 : List Int) : callF (E9 a11 a18 a26 a27 a28 a32 a34) lv9 N en9 c9 (resOf Tryd.f9) 148 [.dv (.pair (.int .u8) (.pair (.int .u8) (.unit))) d0, .dv (.int .u8) bit1, .dv (.sl (.int .u8)) p2, .dv (.sl (.int .u8)) qx3, .dv (.sl (.int .u8)) by4] [] dec9 = (a26 d0).bind fun r1 =>
   chk (decide (0 ≤ Int.tmod bit1 (6 : Int))) ((a26 (d0.1, (bOr .u8 d0.2.1 (IntKind.wrap .u8 ((1 : Int) * 2 ^ min (Int.toNat (Int.tmod bit1 (6 : Int))) 8)), ()))).bind fun r2 =>
   (a26 (d0.1, ((0 : Int), ()))).bind fun r3 =>
   (a26 (d0.1, ((255 : Int), ()))).bind fun r4 =>
   (a27 p2 r1 (10 : Int)).bind fun r5 =>
   (a28 r1 r5 by4).bind fun r6 =>
   (a27 qx3 r1 (10 : Int)).bind fun r7 =>
   (a34 r2 r5 r6).bind fun r8 =>
   (a18 r1 r5).bind fun r9 =>
   (a18 r2 r5).bind fun r10 =>
   (a34 r3 r5 r7).bind fun r11 =>
   (a34 r4 r5 r7).bind fun r12 =>
   cond (r8.2 != (0 : Int)) (some false)
   (cond (r9.2 != (0 : Int)) (some false)
   (cond (r10.2 != (0 : Int)) (some false)
   (cond (r11.2 != (0 : Int)) (some false)
   (cond (r12.2 != (0 : Int)) (some false)
   (cond (!r8.1) (some false)
   (cond (decide (r9.1 < (1 : Int))) (some false)
   (cond (decide (r10.1 < r9.1)) (some false)
   (cond (r11.1 != (r5 == r7)) (some false)
   ((R9_0 a11 a18 a26 a27 a28 a32 a34 N N (Sl9a r5 r7 r12 true (97 : Int))))))))))))) := by kernel_rfl
theorem k9 (a11 : Option (Bool)) (a18 : Q9T0) (a26 : Q9T1) (a27 : Q9T2) (a28 : Q9T3) (a32 : Q9T4) (a34 : Q9T5) (N : Nat) (d0 : Int × Int × Unit) (bit1 : Int) (p2 : List Int) (qx3 : List Int) (by4 : List Int) : callF (E9 a11 a18 a26 a27 a28 a32 a34) lv9 N en9 c9 (resOf Tryd.f9) 148 [.dv (.pair (.int .u8) (.pair (.int .u8) (.unit))) d0, .dv (.int .u8) bit1, .dv (.sl (.int .u8)) p2, .dv (.sl (.int .u8)) qx3, .dv (.sl (.int .u8)) by4] [] dec9 = m9 a11 a18 a26 a27 a28 a32 a34 N d0 bit1 p2 qx3 by4 := by rw [wm9]; simp only [m9, ql9a]
theorem ok9 (a11 : Option (Bool)) (a18 : Q9T0) (a26 : Q9T1) (a27 : Q9T2) (a28 : Q9T3) (a32 : Q9T4) (a34 : Q9T5) (h11 : FnOk Tryd.prog 11 (F11 a11)) (h18 : FnOk Tryd.prog 18 (F18 a18)) (h26 : FnOk Tryd.prog 26 (F26 a26)) (h27 : FnOk Tryd.prog 27 (F27 a27)) (h28 : FnOk Tryd.prog 28 (F28 a28)) (h32 : FnOk Tryd.prog 32 (F32 a32)) (h34 : FnOk Tryd.prog 34 (F34 a34)) (a : (Int × Int × Unit) → Int → (List Int) → (List Int) → (List Int) → Option (Bool)) (h : ∀ d0 bit1 p2 qx3 by4 r, a d0 bit1 p2 qx3 by4 = some r → (∃ N, m9 a11 a18 a26 a27 a28 a32 a34 N d0 bit1 p2 qx3 by4 = some r)) : FnOk Tryd.prog 9 (F9 a) := by
 intro args Of x hx
 simp only [F9] at hx
 split at hx
 ·rename_i d0 bit1 p2 qx3 by4
  obtain ⟨N, hN⟩ := h _ _ _ _ _ _ hx
  refine lifted (L := [(11, F11 a11), (18, F18 a18), (26, F26 a26), (27, F27 a27), (28, F28 a28), (32, F32 a32), (34, F34 a34)]) (rc := nrc) (fz := nfz) (fn := Tryd.f9) (by kernel_rfl) (by kernel_rfl) (by kernel_rfl) (by kernel_rfl) rfl ?_ ((k9 a11 a18 a26 a27 a28 a32 a34 N _ _ _ _ _).trans hN) ?_
  ·intro p hp; simp only [List.mem_cons, List.not_mem_nil, or_false] at hp; rcases hp with rfl | rfl | rfl | rfl | rfl | rfl | rfl
   ·exact h11
   ·exact h18
   ·exact h26
   ·exact h27
   ·exact h28
   ·exact h32
   ·exact h34
  ·intro l o hd
   simp only [dec9] at hd
   split at hd
   ·obtain rfl := Option.some.inj hd; exact ⟨rfl, rfl⟩
   ·cases hd
 ·cases hx
end Go.Proofs.YtmpbbkldopfkpaaDoor
