import Derived.Test.YtmpbbkldopfkpaaDoorQFI
namespace Go.Proofs.YtmpbbkldopfkpaaDoor
open Go.RowKit
set_option linter.unusedVariables false
abbrev Q28T0 := (Int × List (List Int) × Unit) → Int → Int → Option (Bool)
abbrev Q28T1 := (List UInt8) → Int → Option (List UInt8)
abbrev Q28T2 := Int × List (List Int) × Unit
def E28 (a30 : Q28T0) (a57 : Q28T1) : Env := mkE TI TY [(30, F30 a30), (57, F57 a57)] nrc nfz
noncomputable def c28 : Code := bodyOf Tryd.f28
def nm28_0 : Norm := ⟨[1, 3, 10, 11, 12], [3], [], []⟩
def lv28 : Nat → Option Norm := norms [(2, nm28_0)]
def en28 : End := ⟨[], ⟨[39], [], [], []⟩⟩
def dec28 (l : List TV) (o : List (Nat × TO)) : Option (List UInt8) := match l, o with | [.dv (.str) x0], [] => some (x0) | _, _ => none
def Sl28a (o0 : Q28T2) (by2 : List Int) (s1_a : List UInt8) (t12_a : Int) : TS := ⟨slots 39 [(1, .dv (.str) s1_a), (3, .ptr 3 0 []), (10, .dv (.sl (.int .u8)) by2), (11, .dv (.int .i64) (by2.length : Int)), (12, .dv (.int .i64) t12_a)], [(3, .row (.pair (.int .i64) (.pair (.sl (.arr 2 (.int .i64))) (.unit))) ([o0] : List (Int × List (List Int) × Unit)))]⟩
noncomputable def K28_0 (a30 : Q28T0) (a57 : Q28T1) (N : Nat) : Kont (List UInt8) := kont (E28 a30 a57) lv28 N c28 [1, 0, 1, 0] (fin TI en28 (resOf Tryd.f28) dec28)
noncomputable def R28_0 (a30 : Q28T0) (a57 : Q28T1) (N : Nat) (m : Nat) : TS → Option (List UInt8) := loopK (den (E28 a30 a57) lv28 N (sub c28 [1, 0, 1, 0, 0])) (TS.norm nm28_0) (K28_0 a30 a57 N) m
def l28a (a30 : Q28T0) (a57 : Q28T1) (N : Nat) (o0 : Q28T2) (by2 : List Int) : Nat → (List UInt8) → Int → Option (List UInt8)
 | 0, _, _ => none
 | n + 1, s1_a, t12_a => cond (decide (t12_a < (by2.length : Int))) (chk (decide (0 ≤ t12_a ∧ t12_a < (by2.length : Int))) (cond (decide ((s1_a.length : Int) > (1 : Int))) (chk (decide (w64 ((s1_a.length : Int) - (1 : Int)) ≠ (0 : Int))) (chk (decide (0 ≤ Int.tmod (w64 (by2.getD t12_a.toNat (0 : Int))) (w64 ((s1_a.length : Int) - (1 : Int))) ∧ Int.tmod (w64 (by2.getD t12_a.toNat (0 : Int))) (w64 ((s1_a.length : Int) - (1 : Int))) < (s1_a.length : Int))) (chk (decide (0 ≤ w64 ((Int.tmod (w64 (by2.getD t12_a.toNat (0 : Int))) (w64 ((s1_a.length : Int) - (1 : Int)))) + (1 : Int)) ∧ w64 ((Int.tmod (w64 (by2.getD t12_a.toNat (0 : Int))) (w64 ((s1_a.length : Int) - (1 : Int)))) + (1 : Int)) < (s1_a.length : Int))) ((a30 o0 (((s1_a.getD ((Int.tmod (w64 (by2.getD t12_a.toNat (0 : Int))) (w64 ((s1_a.length : Int) - (1 : Int)))).toNat) 0).toNat : Nat) : Int) (((s1_a.getD ((w64 ((Int.tmod (w64 (by2.getD t12_a.toNat (0 : Int))) (w64 ((s1_a.length : Int) - (1 : Int)))) + (1 : Int))).toNat) 0).toNat : Nat) : Int)).bind fun r1 =>
   cond (r1) ((a57 s1_a (Int.tmod (w64 (by2.getD t12_a.toNat (0 : Int))) (w64 ((s1_a.length : Int) - (1 : Int))))).bind fun r2 =>
   (l28a a30 a57 N o0 by2 n r2 (w64 (t12_a + (1 : Int)))))
   ((l28a a30 a57 N o0 by2 n s1_a (w64 (t12_a + (1 : Int)))))))))
   ((l28a a30 a57 N o0 by2 n s1_a (w64 (t12_a + (1 : Int)))))))
   (some s1_a)
theorem wl28a (a30 : Q28T0) (a57 : Q28T1) (N : Nat) (o0 : Q28T2) (by2 : List Int) (m : Nat) (s1_a : List UInt8) (t12_a : Int) : R28_0 a30 a57 N (m + 1) (Sl28a o0 by2 s1_a t12_a) = cond (decide (t12_a < (by2.length : Int))) (chk (decide (0 ≤ t12_a ∧ t12_a < (by2.length : Int))) (cond (decide ((s1_a.length : Int) > (1 : Int))) (chk (decide (w64 ((s1_a.length : Int) - (1 : Int)) ≠ (0 : Int))) (chk (decide (0 ≤ Int.tmod (w64 (by2.getD t12_a.toNat (0 : Int))) (w64 ((s1_a.length : Int) - (1 : Int))) ∧ Int.tmod (w64 (by2.getD t12_a.toNat (0 : Int))) (w64 ((s1_a.length : Int) - (1 : Int))) < (s1_a.length : Int))) (chk (decide (0 ≤ w64 ((Int.tmod (w64 (by2.getD t12_a.toNat (0 : Int))) (w64 ((s1_a.length : Int) - (1 : Int)))) + (1 : Int)) ∧ w64 ((Int.tmod (w64 (by2.getD t12_a.toNat (0 : Int))) (w64 ((s1_a.length : Int) - (1 : Int)))) + (1 : Int)) < (s1_a.length : Int))) ((a30 o0 (((s1_a.getD ((Int.tmod (w64 (by2.getD t12_a.toNat (0 : Int))) (w64 ((s1_a.length : Int) - (1 : Int)))).toNat) 0).toNat : Nat) : Int) (((s1_a.getD ((w64 ((Int.tmod (w64 (by2.getD t12_a.toNat (0 : Int))) (w64 ((s1_a.length : Int) - (1 : Int)))) + (1 : Int))).toNat) 0).toNat : Nat) : Int)).bind fun r1 =>
   cond (r1) ((a57 s1_a (Int.tmod (w64 (by2.getD t12_a.toNat (0 : Int))) (w64 ((s1_a.length : Int) - (1 : Int))))).bind fun r2 =>
   (R28_0 a30 a57 N m (Sl28a o0 by2 r2 (w64 (t12_a + (1 : Int))))))
   ((R28_0 a30 a57 N m (Sl28a o0 by2 s1_a (w64 (t12_a + (1 : Int))))))))))
   ((R28_0 a30 a57 N m (Sl28a o0 by2 s1_a (w64 (t12_a + (1 : Int))))))))
   (some s1_a) := by kernel_rfl
theorem ql28a (a30 : Q28T0) (a57 : Q28T1) (N : Nat) (o0 : Q28T2) (by2 : List Int) : ∀ (m : Nat) (s1_a : List UInt8) (t12_a : Int), R28_0 a30 a57 N m (Sl28a o0 by2 s1_a t12_a) = l28a a30 a57 N o0 by2 m s1_a t12_a
        | 0, _, _ => rfl
        | m + 1, s1_a, t12_a => by rw [wl28a]; simp only [l28a, ql28a a30 a57 N o0 by2 m]
def m28 (a30 : Q28T0) (a57 : Q28T1) (N : Nat) (o0 : Q28T2) (s1 : List UInt8) (by2 : List Int) : Option (List UInt8) :=
   (l28a a30 a57 N o0 by2 N s1 (0 : Int))
theorem wm28 (a30 : Q28T0) (a57 : Q28T1) (N : Nat) (o0 : Q28T2) (s1 : List UInt8) (by2 : List Int) : callF (E28 a30 a57) lv28 N en28 c28 (resOf Tryd.f28) 36 [.dv (.pair (.int .i64) (.pair (.sl (.arr 2 (.int .i64))) (.unit))) o0, .dv (.str) s1, .dv (.sl (.int .u8)) by2] [] dec28 = (R28_0 a30 a57 N N (Sl28a o0 by2 s1 (0 : Int))) := by kernel_rfl
theorem k28 (a30 : Q28T0) (a57 : Q28T1) (N : Nat) (o0 : Q28T2) (s1 : List UInt8) (by2 : List Int) : callF (E28 a30 a57) lv28 N en28 c28 (resOf Tryd.f28) 36 [.dv (.pair (.int .i64) (.pair (.sl (.arr 2 (.int .i64))) (.unit))) o0, .dv (.str) s1, .dv (.sl (.int .u8)) by2] [] dec28 = m28 a30 a57 N o0 s1 by2 := by rw [wm28]; simp only [m28, ql28a]
theorem ok28 (a30 : Q28T0) (a57 : Q28T1) (h30 : FnOk Tryd.prog 30 (F30 a30)) (h57 : FnOk Tryd.prog 57 (F57 a57)) (a : (Int × List (List Int) × Unit) → (List UInt8) → (List Int) → Option (List UInt8)) (h : ∀ o0 s1 by2 r, a o0 s1 by2 = some r → (∃ N, m28 a30 a57 N o0 s1 by2 = some r)) : FnOk Tryd.prog 28 (F28 a) := by
 intro args Of x hx
 simp only [F28] at hx
 split at hx
 ·rename_i o0 s1 by2
  obtain ⟨N, hN⟩ := h _ _ _ _ hx
  refine lifted (L := [(30, F30 a30), (57, F57 a57)]) (rc := nrc) (fz := nfz) (fn := Tryd.f28) (by kernel_rfl) (by kernel_rfl) (by kernel_rfl) (by kernel_rfl) rfl ?_ ((k28 a30 a57 N _ _ _).trans hN) ?_
  ·intro p hp; simp only [List.mem_cons, List.not_mem_nil, or_false] at hp; rcases hp with rfl | rfl
   ·exact h30
   ·exact h57
  ·intro l o hd
   simp only [dec28] at hd
   split at hd
   ·obtain rfl := Option.some.inj hd; exact ⟨rfl, rfl⟩
   ·cases hd
 ·cases hx
end Go.Proofs.YtmpbbkldopfkpaaDoor
