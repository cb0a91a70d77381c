import Derived.Test.YtmpbbkldopfkpaaDoorQFI
namespace Go.Proofs.YtmpbbkldopfkpaaDoor
open Go.RowKit
set_option linter.unusedVariables false
abbrev Q55T0 := (Int × List (List Int) × Unit) → Int → Int → Option (Bool)
abbrev Q55T1 := Int × List (List Int) × Unit
def E55 (a48 : Q55T0) : Env := mkE TI TY [(48, F48 a48)] nrc nfz
noncomputable def c55 : Code := bodyOf Tryd.f55
def nm55_0 : Norm := ⟨[1, 2, 3, 7], [3], [], []⟩
def lv55 : Nat → Option Norm := norms [(2, nm55_0)]
def en55 : End := ⟨[], ⟨[26], [], [], []⟩⟩
def dec55 (l : List TV) (o : List (Nat × TO)) : Option (Int) := match l, o with | [.dv (.int .i64) x0], [] => some (x0) | _, _ => none
def Sl55a (o0 : Q55T1) (log1 : List UInt8) (kind2 : Int) (i7_a : Int) : TS := ⟨slots 26 [(1, .dv (.str) log1), (2, .dv (.int .u8) kind2), (3, .ptr 3 0 []), (7, .dv (.int .i64) i7_a)], [(3, .row (.pair (.int .i64) (.pair (.sl (.arr 2 (.int .i64))) (.unit))) ([o0] : List (Int × List (List Int) × Unit)))]⟩
noncomputable def K55_0 (a48 : Q55T0) (N : Nat) : Kont (Int) := kont (E55 a48) lv55 N c55 [1, 0, 1, 0] (fin TI en55 (resOf Tryd.f55) dec55)
noncomputable def R55_0 (a48 : Q55T0) (N : Nat) (m : Nat) : TS → Option (Int) := loopK (den (E55 a48) lv55 N (sub c55 [1, 0, 1, 0, 0])) (TS.norm nm55_0) (K55_0 a48 N) m
def l55a (a48 : Q55T0) (N : Nat) (o0 : Q55T1) (log1 : List UInt8) (kind2 : Int) : Nat → Int → Option (Int)
 | 0, _ => none
 | n + 1, i7_a => cond (decide (i7_a < (log1.length : Int))) (chk (decide (0 ≤ i7_a ∧ i7_a < (log1.length : Int))) (cond ((((log1.getD i7_a.toNat 0).toNat : Nat) : Int) == kind2) (some i7_a)
   (chk (decide (0 ≤ i7_a ∧ i7_a < (log1.length : Int))) ((a48 o0 (((log1.getD i7_a.toNat 0).toNat : Nat) : Int) kind2).bind fun r1 =>
   cond (r1) (some (-1 : Int))
   ((l55a a48 N o0 log1 kind2 n (w64 (i7_a + (1 : Int)))))))))
   (some (-1 : Int))
theorem wl55a (a48 : Q55T0) (N : Nat) (o0 : Q55T1) (log1 : List UInt8) (kind2 : Int) (m : Nat) (i7_a : Int) : R55_0 a48 N (m + 1) (Sl55a o0 log1 kind2 i7_a) = cond (decide (i7_a < (log1.length : Int))) (chk (decide (0 ≤ i7_a ∧ i7_a < (log1.length : Int))) (cond ((((log1.getD i7_a.toNat 0).toNat : Nat) : Int) == kind2) (some i7_a)
   (chk (decide (0 ≤ i7_a ∧ i7_a < (log1.length : Int))) ((a48 o0 (((log1.getD i7_a.toNat 0).toNat : Nat) : Int) kind2).bind fun r1 =>
   cond (r1) (some (-1 : Int))
   ((R55_0 a48 N m (Sl55a o0 log1 kind2 (w64 (i7_a + (1 : Int))))))))))
   (some (-1 : Int)) := by kernel_rfl
theorem ql55a (a48 : Q55T0) (N : Nat) (o0 : Q55T1) (log1 : List UInt8) (kind2 : Int) : ∀ (m : Nat) (i7_a : Int), R55_0 a48 N m (Sl55a o0 log1 kind2 i7_a) = l55a a48 N o0 log1 kind2 m i7_a
        | 0, _ => rfl
        | m + 1, i7_a => by rw [wl55a]; simp only [l55a, ql55a a48 N o0 log1 kind2 m]
def m55 (a48 : Q55T0) (N : Nat) (o0 : Q55T1) (log1 : List UInt8) (kind2 : Int) : Option (Int) :=
   (l55a a48 N o0 log1 kind2 N (0 : Int))
theorem wm55 (a48 : Q55T0) (N : Nat) (o0 : Q55T1) (log1 : List UInt8) (kind2 : Int) : callF (E55 a48) lv55 N en55 c55 (resOf Tryd.f55) 23 [.dv (.pair (.int .i64) (.pair (.sl (.arr 2 (.int .i64))) (.unit))) o0, .dv (.str) log1, .dv (.int .u8) kind2] [] dec55 = (R55_0 a48 N N (Sl55a o0 log1 kind2 (0 : Int))) := by kernel_rfl
theorem k55 (a48 : Q55T0) (N : Nat) (o0 : Q55T1) (log1 : List UInt8) (kind2 : Int) : callF (E55 a48) lv55 N en55 c55 (resOf Tryd.f55) 23 [.dv (.pair (.int .i64) (.pair (.sl (.arr 2 (.int .i64))) (.unit))) o0, .dv (.str) log1, .dv (.int .u8) kind2] [] dec55 = m55 a48 N o0 log1 kind2 := by rw [wm55]; simp only [m55, ql55a]
theorem ok55 (a48 : Q55T0) (h48 : FnOk Tryd.prog 48 (F48 a48)) (a : (Int × List (List Int) × Unit) → (List UInt8) → Int → Option (Int)) (h : ∀ o0 log1 kind2 r, a o0 log1 kind2 = some r → (∃ N, m55 a48 N o0 log1 kind2 = some r)) : FnOk Tryd.prog 55 (F55 a) := by
 intro args Of x hx
 simp only [F55] at hx
 split at hx
 ·rename_i o0 log1 kind2
  obtain ⟨N, hN⟩ := h _ _ _ _ hx
  refine lifted (L := [(48, F48 a48)]) (rc := nrc) (fz := nfz) (fn := Tryd.f55) (by kernel_rfl) (by kernel_rfl) (by kernel_rfl) (by kernel_rfl) rfl ?_ ((k55 a48 N _ _ _).trans hN) ?_
  ·intro p hp; simp only [List.mem_cons, List.not_mem_nil, or_false] at hp; rcases hp with rfl; exact h48
  ·intro l o hd
   simp only [dec55] at hd
   split at hd
   ·obtain rfl := Option.some.inj hd; exact ⟨rfl, rfl⟩
   ·cases hd
 ·cases hx
end Go.Proofs.YtmpbbkldopfkpaaDoor
