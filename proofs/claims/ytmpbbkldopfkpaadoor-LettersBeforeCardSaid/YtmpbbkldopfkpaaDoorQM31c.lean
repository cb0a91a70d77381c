import Derived.Test.YtmpbbkldopfkpaaDoorQFI
namespace Go.Proofs.YtmpbbkldopfkpaaDoor
open Go.RowKit
set_option linter.unusedVariables false
def E31c (a32 : (List UInt8) → Int → Int → Option (List UInt8)) : Env := mkE TI TY [(32, F32 a32)] nrc nfz
noncomputable def c31c : Code := bodyOf Tryd.f31
def lv31c : Nat → Option Norm := norms []
def en31c : End := ⟨[], ⟨[15], [], [], []⟩⟩
def dec31c (l : List TV) (o : List (Nat × TO)) : Option (Int) := match l, o with | [.dv (.int .i64) x0], [] => some (x0) | _, _ => none
def m31c (a32 : (List UInt8) → Int → Int → Option (List UInt8)) (N : Nat) (i0 : Int) (p1 : List UInt8) : Option (Int) :=
      chk (decide (0 ≤ i0 ∧ i0 ≤ (p1.length : Int))) (chk (decide (0 ≤ i0 ∧ i0 < (p1.length : Int))) (chk (decide (0 ≤ i0 ∧ i0 < (p1.length : Int))) ((a32 (p1.take i0.toNat) (((p1.getD i0.toNat 0).toNat : Nat) : Int) (((p1.getD i0.toNat 0).toNat : Nat) : Int)).bind fun r1 =>
      some (r1.length : Int))))
theorem k31c (a32 : (List UInt8) → Int → Int → Option (List UInt8)) (N : Nat) (i0 : Int) (p1 : List UInt8) : callF (E31c a32) lv31c N en31c c31c (resOf Tryd.f31) 13 [.dv (.int .i64) i0, .el (.str) p1 []] [] dec31c = m31c a32 N i0 p1 := by kernel_rfl
theorem ok31c (a32 : (List UInt8) → Int → Int → Option (List UInt8)) (h32 : FnOk Tryd.prog 32 (F32 a32)) (a : Int → (List UInt8) → Option (Int)) (h : ∀ i0 p1 r, a i0 p1 = some r → (∃ N, m31c a32 N i0 p1 = some r)) : FnOk Tryd.prog 31 (F31c a) := by
  intro args Of x hx
  simp only [F31c] at hx
  split at hx
  · rename_i i0 p1
    obtain ⟨N, hN⟩ := h _ _ _ hx
    refine lifted (L := [(32, F32 a32)]) (rc := nrc) (fz := nfz) (fn := Tryd.f31) (by kernel_rfl) (by kernel_rfl) (by kernel_rfl) (by kernel_rfl) rfl ?_ ((k31c a32 N _ _).trans hN) ?_
    · intro p hp; simp only [List.mem_cons, List.not_mem_nil, or_false] at hp; rcases hp with rfl; exact h32
    · intro l o hd
      simp only [dec31c] at hd
      split at hd
      · obtain rfl := Option.some.inj hd; exact ⟨rfl, rfl⟩
      · cases hd
  · cases hx
end Go.Proofs.YtmpbbkldopfkpaaDoor
