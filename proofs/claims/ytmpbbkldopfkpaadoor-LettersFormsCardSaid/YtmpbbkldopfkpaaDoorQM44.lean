import Derived.Test.YtmpbbkldopfkpaaDoorQFI
namespace Go.Proofs.YtmpbbkldopfkpaaDoor
open Go.RowKit
set_option linter.unusedVariables false
abbrev Q44T0 := (Int × List (List Int) × Unit) → Option (Int)
abbrev Q44T1 := Int × List (List Int) × Unit
def E44 (a64 : Q44T0) : Env := mkE TI TY [(64, F64 a64)] nrc nfz
noncomputable def c44 : Code := bodyOf Tryd.f44
def nm44_0 : Norm := ⟨[1, 2, 6], [2], [], []⟩
def lv44 : Nat → Option Norm := norms [(7, nm44_0)]
def en44 : End := ⟨[], ⟨[35], [], [], []⟩⟩
def dec44 (l : List TV) (o : List (Nat × TO)) : Option (Int) := match l, o with | [.dv (.int .i64) x0], [] => some (x0) | _, _ => none
def Sl44a (o0 : Q44T1) (log1 : List UInt8) (i6_a : Int) : TS := ⟨slots 35 [(1, .dv (.str) log1), (2, .ptr 2 0 []), (6, .dv (.int .i64) i6_a)], [(2, .row (.pair (.int .i64) (.pair (.sl (.arr 2 (.int .i64))) (.unit))) ([o0] : List (Int × List (List Int) × Unit)))]⟩
noncomputable def K44_0 (a64 : Q44T0) (N : Nat) : Kont (Int) := kont (E44 a64) lv44 N c44 [1, 1, 1, 1, 0, 1, 0] (fin TI en44 (resOf Tryd.f44) dec44)
noncomputable def R44_0 (a64 : Q44T0) (N : Nat) (m : Nat) : TS → Option (Int) := loopK (den (E44 a64) lv44 N (sub c44 [1, 1, 1, 1, 0, 1, 0, 0])) (TS.norm nm44_0) (K44_0 a64 N) m
def l44a (a64 : Q44T0) (N : Nat) (o0 : Q44T1) (log1 : List UInt8) : Nat → Int → Option (Int)
 | 0, _ => none
 | n + 1, i6_a => cond (decide (i6_a < (log1.length : Int))) (chk (decide (0 ≤ i6_a ∧ i6_a < (log1.length : Int))) (cond (decide ((((log1.getD i6_a.toNat 0).toNat : Nat) : Int) < (97 : Int))) (some (9 : Int))
   (chk (decide (0 ≤ i6_a ∧ i6_a < (log1.length : Int))) (cond (decide ((w64 (IntKind.wrap .u8 ((((log1.getD i6_a.toNat 0).toNat : Nat) : Int) - (97 : Int)))) ≥ o0.1)) (some (9 : Int))
   ((l44a a64 N o0 log1 n (w64 (i6_a + (1 : Int)))))))))
   (some (0 : Int))
theorem wl44a (a64 : Q44T0) (N : Nat) (o0 : Q44T1) (log1 : List UInt8) (m : Nat) (i6_a : Int) : R44_0 a64 N (m + 1) (Sl44a o0 log1 i6_a) = cond (decide (i6_a < (log1.length : Int))) (chk (decide (0 ≤ i6_a ∧ i6_a < (log1.length : Int))) (cond (decide ((((log1.getD i6_a.toNat 0).toNat : Nat) : Int) < (97 : Int))) (some (9 : Int))
   (chk (decide (0 ≤ i6_a ∧ i6_a < (log1.length : Int))) (cond (decide ((w64 (IntKind.wrap .u8 ((((log1.getD i6_a.toNat 0).toNat : Nat) : Int) - (97 : Int)))) ≥ o0.1)) (some (9 : Int))
   ((R44_0 a64 N m (Sl44a o0 log1 (w64 (i6_a + (1 : Int))))))))))
   (some (0 : Int)) := by kernel_rfl
theorem ql44a (a64 : Q44T0) (N : Nat) (o0 : Q44T1) (log1 : List UInt8) : ∀ (m : Nat) (i6_a : Int), R44_0 a64 N m (Sl44a o0 log1 i6_a) = l44a a64 N o0 log1 m i6_a
        | 0, _ => rfl
        | m + 1, i6_a => by rw [wl44a]; simp only [l44a, ql44a a64 N o0 log1 m]
def m44 (a64 : Q44T0) (N : Nat) (o0 : Q44T1) (log1 : List UInt8) : Option (Int) :=
   (a64 o0).bind fun r1 =>
   cond (r1 != (0 : Int)) (some r1)
   (cond (decide ((log1.length : Int) > (14 : Int))) (some (19 : Int))
   ((l44a a64 N o0 log1 N (0 : Int))))
theorem wm44 (a64 : Q44T0) (N : Nat) (o0 : Q44T1) (log1 : List UInt8) : callF (E44 a64) lv44 N en44 c44 (resOf Tryd.f44) 33 [.dv (.pair (.int .i64) (.pair (.sl (.arr 2 (.int .i64))) (.unit))) o0, .dv (.str) log1] [] dec44 = (a64 o0).bind fun r1 =>
   cond (r1 != (0 : Int)) (some r1)
   (cond (decide ((log1.length : Int) > (14 : Int))) (some (19 : Int))
   ((R44_0 a64 N N (Sl44a o0 log1 (0 : Int))))) := by kernel_rfl
theorem k44 (a64 : Q44T0) (N : Nat) (o0 : Q44T1) (log1 : List UInt8) : callF (E44 a64) lv44 N en44 c44 (resOf Tryd.f44) 33 [.dv (.pair (.int .i64) (.pair (.sl (.arr 2 (.int .i64))) (.unit))) o0, .dv (.str) log1] [] dec44 = m44 a64 N o0 log1 := by rw [wm44]; simp only [m44, ql44a]
theorem ok44 (a64 : Q44T0) (h64 : FnOk Tryd.prog 64 (F64 a64)) (a : (Int × List (List Int) × Unit) → (List UInt8) → Option (Int)) (h : ∀ o0 log1 r, a o0 log1 = some r → (∃ N, m44 a64 N o0 log1 = some r)) : FnOk Tryd.prog 44 (F44 a) := by
 intro args Of x hx
 simp only [F44] at hx
 split at hx
 ·rename_i o0 log1
  obtain ⟨N, hN⟩ := h _ _ _ hx
  refine lifted (L := [(64, F64 a64)]) (rc := nrc) (fz := nfz) (fn := Tryd.f44) (by kernel_rfl) (by kernel_rfl) (by kernel_rfl) (by kernel_rfl) rfl ?_ ((k44 a64 N _ _).trans hN) ?_
  ·intro p hp; simp only [List.mem_cons, List.not_mem_nil, or_false] at hp; rcases hp with rfl; exact h64
  ·intro l o hd
   simp only [dec44] at hd
   split at hd
   ·obtain rfl := Option.some.inj hd; exact ⟨rfl, rfl⟩
   ·cases hd
 ·cases hx
end Go.Proofs.YtmpbbkldopfkpaaDoor
