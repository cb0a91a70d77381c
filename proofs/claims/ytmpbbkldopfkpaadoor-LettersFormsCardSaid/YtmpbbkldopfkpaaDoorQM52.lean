import Derived.Test.YtmpbbkldopfkpaaDoorQFI
namespace Go.Proofs.YtmpbbkldopfkpaaDoor
open Go.RowKit
set_option linter.unusedVariables false
def E52 (a68 : Int → Int → Int → Option (Bool)) : Env := mkE TI TY [(68, F68 a68)] nrc nfz
noncomputable def c52 : Code := bodyOf Tryd.f52
def lv52 : Nat → Option Norm := norms []
def en52 : End := ⟨[], ⟨[11], [], [], []⟩⟩
def dec52 (l : List TV) (o : List (Nat × TO)) : Option (Bool) := match l, o with | [.dv (.bool) x0], [] => some (x0) | _, _ => none
def m52 (a68 : Int → Int → Int → Option (Bool)) (N : Nat) (n0 : Int) (lo1 : Int) (hi2 : Int) : Option (Bool) :=
   (a68 n0 lo1 hi2).bind fun r1 =>
   some r1
theorem k52 (a68 : Int → Int → Int → Option (Bool)) (N : Nat) (n0 : Int) (lo1 : Int) (hi2 : Int) : callF (E52 a68) lv52 N en52 c52 (resOf Tryd.f52) 8 [.dv (.int .i64) n0, .dv (.int .i64) lo1, .dv (.int .i64) hi2] [] dec52 = m52 a68 N n0 lo1 hi2 := by kernel_rfl
theorem ok52 (a68 : Int → Int → Int → Option (Bool)) (h68 : FnOk Tryd.prog 68 (F68 a68)) (a : Int → Int → Int → Option (Bool)) (h : ∀ n0 lo1 hi2 r, a n0 lo1 hi2 = some r → (∃ N, m52 a68 N n0 lo1 hi2 = some r)) : FnOk Tryd.prog 52 (F52 a) := by
 intro args Of x hx
 simp only [F52] at hx
 split at hx
 ·rename_i n0 lo1 hi2
  obtain ⟨N, hN⟩ := h _ _ _ _ hx
  refine lifted (L := [(68, F68 a68)]) (rc := nrc) (fz := nfz) (fn := Tryd.f52) (by kernel_rfl) (by kernel_rfl) (by kernel_rfl) (by kernel_rfl) rfl ?_ ((k52 a68 N _ _ _).trans hN) ?_
  ·intro p hp; simp only [List.mem_cons, List.not_mem_nil, or_false] at hp; rcases hp with rfl; exact h68
  ·intro l o hd
   simp only [dec52] at hd
   split at hd
   ·obtain rfl := Option.some.inj hd; exact ⟨rfl, rfl⟩
   ·cases hd
 ·cases hx
end Go.Proofs.YtmpbbkldopfkpaaDoor
