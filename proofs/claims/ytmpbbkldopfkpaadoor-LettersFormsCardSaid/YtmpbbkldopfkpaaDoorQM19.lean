import Derived.Test.YtmpbbkldopfkpaaDoorQFI
namespace Go.Proofs.YtmpbbkldopfkpaaDoor
open Go.RowKit
set_option linter.unusedVariables false
abbrev Q19T0 := (Int × List (List Int) × Unit) → (List UInt8) → Option (Int)
abbrev Q19T1 := (Int × List (List Int) × Unit) → (List UInt8) → Int → (List Int) → Option (Int × List Int)
def E19 (a44 : Q19T0) (a50c : Q19T1) : Env := mkE TI TY [(44, F44 a44), (50, F50c a50c)] nrc nfz
noncomputable def c19 : Code := bodyOf Tryd.f19
def lv19 : Nat → Option Norm := norms []
def en19 : End := ⟨[], ⟨[20, 21], [], [], []⟩⟩
def dec19 (l : List TV) (o : List (Nat × TO)) : Option (Int × Int) := match l, o with | [.dv (.int .i64) x0, .dv (.int .i64) x1], [] => some (x0, x1) | _, _ => none
def m19 (a44 : Q19T0) (a50c : Q19T1) (N : Nat) (o0 : Int × List (List Int) × Unit) (log1 : List UInt8) : Option (Int × Int) :=
   (a44 o0 log1).bind fun r1 =>
   cond (r1 != (0 : Int)) (some ((0 : Int), r1))
   (chk (decide (0 ≤ (log1.length : Int))) (chk (mkOk (IntKind.wrap .i64 ((1 : Int) * 2 ^ min (Int.toNat (log1.length : Int)) 64)) (IntKind.wrap .i64 ((1 : Int) * 2 ^ min (Int.toNat (log1.length : Int)) 64)) 8) ((a50c o0 log1 (0 : Int) (List.replicate ((IntKind.wrap .i64 ((1 : Int) * 2 ^ min (Int.toNat (log1.length : Int)) 64)).toNat) (0 : Int))).bind fun r2 =>
   some (r2.1, (0 : Int)))))
theorem k19 (a44 : Q19T0) (a50c : Q19T1) (N : Nat) (o0 : Int × List (List Int) × Unit) (log1 : List UInt8) : callF (E19 a44 a50c) lv19 N en19 c19 (resOf Tryd.f19) 18 [.dv (.pair (.int .i64) (.pair (.sl (.arr 2 (.int .i64))) (.unit))) o0, .dv (.str) log1] [] dec19 = m19 a44 a50c N o0 log1 := by kernel_rfl
theorem ok19 (a44 : Q19T0) (a50c : Q19T1) (h44 : FnOk Tryd.prog 44 (F44 a44)) (h50c : FnOk Tryd.prog 50 (F50c a50c)) (a : (Int × List (List Int) × Unit) → (List UInt8) → Option (Int × Int)) (h : ∀ o0 log1 r, a o0 log1 = some r → (∃ N, m19 a44 a50c N o0 log1 = some r)) : FnOk Tryd.prog 19 (F19 a) := by
 intro args Of x hx
 simp only [F19] at hx
 split at hx
 ·rename_i o0 log1
  obtain ⟨N, hN⟩ := h _ _ _ hx
  refine lifted (L := [(44, F44 a44), (50, F50c a50c)]) (rc := nrc) (fz := nfz) (fn := Tryd.f19) (by kernel_rfl) (by kernel_rfl) (by kernel_rfl) (by kernel_rfl) rfl ?_ ((k19 a44 a50c N _ _).trans hN) ?_
  ·intro p hp; simp only [List.mem_cons, List.not_mem_nil, or_false] at hp; rcases hp with rfl | rfl
   ·exact h44
   ·exact h50c
  ·intro l o hd
   simp only [dec19] at hd
   split at hd
   ·obtain rfl := Option.some.inj hd; exact ⟨rfl, rfl⟩
   ·cases hd
 ·cases hx
end Go.Proofs.YtmpbbkldopfkpaaDoor
