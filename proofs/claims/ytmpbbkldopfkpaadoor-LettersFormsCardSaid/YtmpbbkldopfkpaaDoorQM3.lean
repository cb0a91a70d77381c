import Derived.Test.YtmpbbkldopfkpaaDoorQFI
namespace Go.Proofs.YtmpbbkldopfkpaaDoor
open Go.RowKit
set_option linter.unusedVariables false
abbrev Q3T0 := (Int × List (List Int) × Unit) → Option (Int × List (List Int) × Unit)
abbrev Q3T1 := (Int × List (List Int) × Unit) → (List UInt8) → Option (List UInt8 × Int)
abbrev Q3T2 := (Int × List (List Int) × Unit) → (List UInt8) → Option (List (List UInt8) × Int)
abbrev Q3T3 := (List (List UInt8)) → (List (List UInt8)) → Option (Bool)
abbrev Q3T4 := (Int × List (List Int) × Unit) → (List UInt8) → Option (Int × Int)
abbrev Q3T5 := (Int × List (List Int) × Unit) → (List UInt8) → Int → Int → Option (Bool × Int)
def E3 (a11 : Option (Bool)) (a12 : Q3T0) (a13 : Q3T1) (a14 : Q3T1) (a15 : Q3T2) (a16 : Q3T2) (a17 : Q3T3) (a18 : Q3T4) (a19 : Q3T4) (a20 : Q3T5) (a21 : Q3T5) : Env := mkE TI TY [(11, F11 a11), (12, F12 a12), (13, F13 a13), (14, F14 a14), (15, F15 a15), (16, F16 a16), (17, F17 a17), (18, F18 a18), (19, F19 a19), (20, F20 a20), (21, F21 a21)] nrc nfz
noncomputable def c3 : Code := bodyOf Tryd.f3
def lv3 : Nat → Option Norm := norms []
def en3 : End := ⟨[], ⟨[126], [], [], []⟩⟩
def dec3 (l : List TV) (o : List (Nat × TO)) : Option (Bool) := match l, o with | [.dv (.bool) x0], [] => some (x0) | _, _ => none
def m3 (a11 : Option (Bool)) (a12 : Q3T0) (a13 : Q3T1) (a14 : Q3T1) (a15 : Q3T2) (a16 : Q3T2) (a17 : Q3T3) (a18 : Q3T4) (a19 : Q3T4) (a20 : Q3T5) (a21 : Q3T5) (N : Nat) (o0 : Int × List (List Int) × Unit) (log1 : List UInt8) (i2 : Int) (kx3 : Int) : Option (Bool) :=
   cond (decide ((o0.2.1.length : Int) > (60 : Int))) ((a11).bind fun r1 =>
   some r1)
   (cond (decide ((log1.length : Int) > (100 : Int))) ((a11).bind fun r2 =>
   some r2)
   ((a12 o0).bind fun r3 =>
   (a13 o0 log1).bind fun r4 =>
   (a14 r3 log1).bind fun r5 =>
   (a15 o0 log1).bind fun r6 =>
   (a16 r3 log1).bind fun r7 =>
   cond (!(r4.1 == r5.1)) (some false)
   (cond (r4.2 != r5.2) (some false)
   ((a17 r6.1 r7.1).bind fun r8 =>
   cond (!r8) (some false)
   (cond (r6.2 != r7.2) (some false)
   ((a18 o0 log1).bind fun r9 =>
   (a19 r3 log1).bind fun r10 =>
   (a20 o0 log1 i2 kx3).bind fun r11 =>
   (a21 r3 log1 i2 kx3).bind fun r12 =>
   cond (r9.1 == r10.1) (cond (r9.2 == r10.2) (cond (r11.1 == r12.1) (cond (r11.2 == r12.2) ((a11).bind fun r13 =>
   some r13)
   (some false))
   (some false))
   (some false))
   (some false)))))))
theorem k3 (a11 : Option (Bool)) (a12 : Q3T0) (a13 : Q3T1) (a14 : Q3T1) (a15 : Q3T2) (a16 : Q3T2) (a17 : Q3T3) (a18 : Q3T4) (a19 : Q3T4) (a20 : Q3T5) (a21 : Q3T5) (N : Nat) (o0 : Int × List (List Int) × Unit) (log1 : List UInt8) (i2 : Int) (kx3 : Int) : callF (E3 a11 a12 a13 a14 a15 a16 a17 a18 a19 a20 a21) lv3 N en3 c3 (resOf Tryd.f3) 122 [.dv (.pair (.int .i64) (.pair (.sl (.arr 2 (.int .i64))) (.unit))) o0, .dv (.str) log1, .dv (.int .i64) i2, .dv (.int .i64) kx3] [] dec3 = m3 a11 a12 a13 a14 a15 a16 a17 a18 a19 a20 a21 N o0 log1 i2 kx3 := by kernel_rfl
theorem ok3 (a11 : Option (Bool)) (a12 : Q3T0) (a13 : Q3T1) (a14 : Q3T1) (a15 : Q3T2) (a16 : Q3T2) (a17 : Q3T3) (a18 : Q3T4) (a19 : Q3T4) (a20 : Q3T5) (a21 : Q3T5) (h11 : FnOk Tryd.prog 11 (F11 a11)) (h12 : FnOk Tryd.prog 12 (F12 a12)) (h13 : FnOk Tryd.prog 13 (F13 a13)) (h14 : FnOk Tryd.prog 14 (F14 a14)) (h15 : FnOk Tryd.prog 15 (F15 a15)) (h16 : FnOk Tryd.prog 16 (F16 a16)) (h17 : FnOk Tryd.prog 17 (F17 a17)) (h18 : FnOk Tryd.prog 18 (F18 a18)) (h19 : FnOk Tryd.prog 19 (F19 a19)) (h20 : FnOk Tryd.prog 20 (F20 a20)) (h21 : FnOk Tryd.prog 21 (F21 a21)) (a : (Int × List (List Int) × Unit) → (List UInt8) → Int → Int → Option (Bool)) (h : ∀ o0 log1 i2 kx3 r, a o0 log1 i2 kx3 = some r → (∃ N, m3 a11 a12 a13 a14 a15 a16 a17 a18 a19 a20 a21 N o0 log1 i2 kx3 = some r)) : FnOk Tryd.prog 3 (F3 a) := by
 intro args Of x hx
 simp only [F3] at hx
 split at hx
 ·rename_i o0 log1 i2 kx3
  obtain ⟨N, hN⟩ := h _ _ _ _ _ hx
  refine lifted (L := [(11, F11 a11), (12, F12 a12), (13, F13 a13), (14, F14 a14), (15, F15 a15), (16, F16 a16), (17, F17 a17), (18, F18 a18), (19, F19 a19), (20, F20 a20), (21, F21 a21)]) (rc := nrc) (fz := nfz) (fn := Tryd.f3) (by kernel_rfl) (by kernel_rfl) (by kernel_rfl) (by kernel_rfl) rfl ?_ ((k3 a11 a12 a13 a14 a15 a16 a17 a18 a19 a20 a21 N _ _ _ _).trans hN) ?_
  ·intro p hp; simp only [List.mem_cons, List.not_mem_nil, or_false] at hp; rcases hp with rfl | rfl | rfl | rfl | rfl | rfl | rfl | rfl | rfl | rfl | rfl
   ·exact h11
   ·exact h12
   ·exact h13
   ·exact h14
   ·exact h15
   ·exact h16
   ·exact h17
   ·exact h18
   ·exact h19
   ·exact h20
   ·exact h21
  ·intro l o hd
   simp only [dec3] at hd
   split at hd
   ·obtain rfl := Option.some.inj hd; exact ⟨rfl, rfl⟩
   ·cases hd
 ·cases hx
end Go.Proofs.YtmpbbkldopfkpaaDoor
