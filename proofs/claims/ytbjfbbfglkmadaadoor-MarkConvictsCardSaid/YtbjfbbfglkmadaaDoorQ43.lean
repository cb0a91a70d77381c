/-
  Functions of the law, told as plain functions.
-/
import Derived.Test.YtbjfbbfglkmadaaDoorQFI
namespace Go.Proofs.YtbjfbbfglkmadaaDoor
open Go.RowKit
set_option linter.unusedVariables false
def E43 (a44 : Y44) (a45 : Y45) : Env := mkE TI TY [(44, F44 a44), (45, F45 a45)] nrc nfz
noncomputable def c43 : Code := bodyOf Tryd.f43
def nm43_0 : Norm := ⟨[1, 2, 3, 8, 9, 10], [3], [], []⟩
def lv43 : Nat → Option Norm := norms [(3, nm43_0)]
def en43 : End := ⟨[], ⟨[40, 41], [], [], []⟩⟩
def dec43 (l : List TV) (o : List (Nat × TO)) : Option (Int × Bool) := match l, o with | [.dv (.int .i64) x0, .dv (.bool) x1], [] => some (x0, x1) | _, _ => none
def Sl43a (c0 : Int × List (List Int) × Unit) (w1 : List Int) (size2 : Int) (all8_a : Int) (found9_a : Bool) (set10_a : Int) : TS := ⟨slots 40 [(1, .dv (.sl (.int .i64)) w1), (2, .dv (.int .i64) size2), (3, .ptr 3 0 []), (8, .dv (.int .i64) all8_a), (9, .dv (.bool) found9_a), (10, .dv (.int .i64) set10_a)], [(3, .row (.pair (.int .i64) (.pair (.sl (.sl (.int .i64))) (.unit))) ([c0] : List Cd))]⟩
noncomputable def K43_0 (a44 : Y44) (a45 : Y45) (N : Nat) : Kont (Int × Bool) := kont (E43 a44 a45) lv43 N c43 [1, 1, 0, 1, 0] (fin TI en43 (resOf Tryd.f43) dec43)
noncomputable def R43_0 (a44 : Y44) (a45 : Y45) (N : Nat) (m : Nat) : TS → Option (Int × Bool) := loopK (den (E43 a44 a45) lv43 N (sub c43 [1, 1, 0, 1, 0, 0])) (TS.norm nm43_0) (K43_0 a44 a45 N) m
def l43a (a44 : Y44) (a45 : Y45) (N : Nat) (c0 : Int × List (List Int) × Unit) (w1 : List Int) (size2 : Int) : Nat → Int → Bool → Int → Option (Int × Bool)
  | 0, _, _, _ => none
  | n + 1, all8_a, found9_a, set10_a => chk (decide (0 ≤ (c0.2.1.length : Int))) (cond (decide (set10_a < (IntKind.wrap .i64 ((1 : Int) * 2 ^ min (Int.toNat (c0.2.1.length : Int)) 64)))) ((a44 set10_a).bind fun r1 =>
      cond (decide ((r1.length : Int) ≤ size2)) ((a45 c0 set10_a w1).bind fun r2 =>
      cond (r2) ((l43a a44 a45 N c0 w1 size2 n (bAnd .i64 all8_a set10_a) true (w64 (set10_a + (1 : Int)))))
      ((l43a a44 a45 N c0 w1 size2 n all8_a found9_a (w64 (set10_a + (1 : Int))))))
      ((l43a a44 a45 N c0 w1 size2 n all8_a found9_a (w64 (set10_a + (1 : Int))))))
      (some (all8_a, found9_a)))
theorem wl43a (a44 : Y44) (a45 : Y45) (N : Nat) (c0 : Int × List (List Int) × Unit) (w1 : List Int) (size2 : Int) (m : Nat) (all8_a : Int) (found9_a : Bool) (set10_a : Int) : R43_0 a44 a45 N (m + 1) (Sl43a c0 w1 size2 all8_a found9_a set10_a) = chk (decide (0 ≤ (c0.2.1.length : Int))) (cond (decide (set10_a < (IntKind.wrap .i64 ((1 : Int) * 2 ^ min (Int.toNat (c0.2.1.length : Int)) 64)))) ((a44 set10_a).bind fun r1 =>
      cond (decide ((r1.length : Int) ≤ size2)) ((a45 c0 set10_a w1).bind fun r2 =>
      cond (r2) ((R43_0 a44 a45 N m (Sl43a c0 w1 size2 (bAnd .i64 all8_a set10_a) true (w64 (set10_a + (1 : Int))))))
      ((R43_0 a44 a45 N m (Sl43a c0 w1 size2 all8_a found9_a (w64 (set10_a + (1 : Int)))))))
      ((R43_0 a44 a45 N m (Sl43a c0 w1 size2 all8_a found9_a (w64 (set10_a + (1 : Int)))))))
      (some (all8_a, found9_a))) := by kernel_rfl
theorem ql43a (a44 : Y44) (a45 : Y45) (N : Nat) (c0 : Int × List (List Int) × Unit) (w1 : List Int) (size2 : Int) : ∀ (m : Nat) (all8_a : Int) (found9_a : Bool) (set10_a : Int), R43_0 a44 a45 N m (Sl43a c0 w1 size2 all8_a found9_a set10_a) = l43a a44 a45 N c0 w1 size2 m all8_a found9_a set10_a
        | 0, _, _, _ => rfl
        | m + 1, all8_a, found9_a, set10_a => by rw [wl43a]; simp only [l43a, ql43a a44 a45 N c0 w1 size2 m]
def m43 (a44 : Y44) (a45 : Y45) (N : Nat) (c0 : Int × List (List Int) × Unit) (w1 : List Int) (size2 : Int) : Option (Int × Bool) :=
      chk (decide (0 ≤ (c0.2.1.length : Int))) ((l43a a44 a45 N c0 w1 size2 N (w64 ((IntKind.wrap .i64 ((1 : Int) * 2 ^ min (Int.toNat (c0.2.1.length : Int)) 64)) - (1 : Int))) false (1 : Int)))
theorem wm43 (a44 : Y44) (a45 : Y45) (N : Nat) (c0 : Int × List (List Int) × Unit) (w1 : List Int) (size2 : Int) : callF (E43 a44 a45) lv43 N en43 c43 (resOf Tryd.f43) 37 [.dv (.pair (.int .i64) (.pair (.sl (.sl (.int .i64))) (.unit))) c0, .dv (.sl (.int .i64)) w1, .dv (.int .i64) size2] [] dec43 = chk (decide (0 ≤ (c0.2.1.length : Int))) ((R43_0 a44 a45 N N (Sl43a c0 w1 size2 (w64 ((IntKind.wrap .i64 ((1 : Int) * 2 ^ min (Int.toNat (c0.2.1.length : Int)) 64)) - (1 : Int))) false (1 : Int)))) := by kernel_rfl
theorem k43 (a44 : Y44) (a45 : Y45) (N : Nat) (c0 : Int × List (List Int) × Unit) (w1 : List Int) (size2 : Int) : callF (E43 a44 a45) lv43 N en43 c43 (resOf Tryd.f43) 37 [.dv (.pair (.int .i64) (.pair (.sl (.sl (.int .i64))) (.unit))) c0, .dv (.sl (.int .i64)) w1, .dv (.int .i64) size2] [] dec43 = m43 a44 a45 N c0 w1 size2 := by rw [wm43]; simp only [m43, ql43a]
theorem ok43 (a44 : Y44) (a45 : Y45) (h44 : FnOk Tryd.prog 44 (F44 a44)) (h45 : FnOk Tryd.prog 45 (F45 a45)) (a : Y43) (h : ∀ c0 w1 size2 r, a c0 w1 size2 = some r → (∃ N, m43 a44 a45 N c0 w1 size2 = some r)) : FnOk Tryd.prog 43 (F43 a) := by
  intro args Of x hx
  simp only [F43] at hx
  split at hx
  · rename_i c0 w1 size2
    obtain ⟨N, hN⟩ := h _ _ _ _ hx
    refine lifted (L := [(44, F44 a44), (45, F45 a45)]) (rc := nrc) (fz := nfz) (fn := Tryd.f43) (by kernel_rfl) (by kernel_rfl) (by kernel_rfl) (by kernel_rfl) rfl ?_ ((k43 a44 a45 N _ _ _).trans hN) ?_
    · intro p hp; simp only [List.mem_cons, List.not_mem_nil, or_false] at hp; rcases hp with rfl | rfl
      · exact h44
      · exact h45
    · intro l o hd
      simp only [dec43] at hd
      split at hd
      · obtain rfl := Option.some.inj hd; exact ⟨rfl, rfl⟩
      · cases hd
  · cases hx
end Go.Proofs.YtbjfbbfglkmadaaDoor
