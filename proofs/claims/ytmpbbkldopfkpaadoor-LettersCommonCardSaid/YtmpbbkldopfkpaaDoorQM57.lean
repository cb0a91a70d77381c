import Derived.Test.YtmpbbkldopfkpaaDoorQFI
namespace Go.Proofs.YtmpbbkldopfkpaaDoor
open Go.RowKit
set_option linter.unusedVariables false
def E57 : Env := mkE TI TY [] nrc nfz
noncomputable def c57 : Code := bodyOf Tryd.f57
def lv57 : Nat → Option Norm := norms []
def en57 : End := ⟨[], ⟨[24], [], [], []⟩⟩
def dec57 (l : List TV) (o : List (Nat × TO)) : Option (List UInt8) := match l, o with | [.dv (.str) x0], [] => some (x0) | _, _ => none
def m57 (N : Nat) (s0 : List UInt8) (i1 : Int) : Option (List UInt8) :=
   chk (decide (0 ≤ i1 ∧ i1 ≤ (s0.length : Int))) (chk (decide (0 ≤ w64 (i1 + (1 : Int)) ∧ w64 (i1 + (1 : Int)) ≤ (s0.length : Int))) (chk (decide (0 ≤ (1 : Int) ∧ (1 : Int) ≤ ((s0.drop ((w64 (i1 + (1 : Int))).toNat)).length : Int))) (chk (decide ((s0.take i1.toNat).length + ((s0.drop ((w64 (i1 + (1 : Int))).toNat)).take 1).length ≤ 9223372036854775807)) (chk (decide (0 ≤ i1 ∧ i1 ≤ (s0.length : Int))) (chk (decide (0 ≤ (1 : Int) ∧ (1 : Int) ≤ ((s0.drop i1.toNat).length : Int))) (chk (decide (((s0.take i1.toNat) ++ ((s0.drop ((w64 (i1 + (1 : Int))).toNat)).take 1)).length + ((s0.drop i1.toNat).take 1).length ≤ 9223372036854775807)) (chk (decide (0 ≤ w64 (i1 + (2 : Int)) ∧ w64 (i1 + (2 : Int)) ≤ (s0.length : Int))) (chk (decide ((((s0.take i1.toNat) ++ ((s0.drop ((w64 (i1 + (1 : Int))).toNat)).take 1)) ++ ((s0.drop i1.toNat).take 1)).length + (s0.drop ((w64 (i1 + (2 : Int))).toNat)).length ≤ 9223372036854775807)) (some ((((s0.take i1.toNat) ++ ((s0.drop ((w64 (i1 + (1 : Int))).toNat)).take 1)) ++ ((s0.drop i1.toNat).take 1)) ++ (s0.drop ((w64 (i1 + (2 : Int))).toNat))))))))))))
theorem k57 (N : Nat) (s0 : List UInt8) (i1 : Int) : callF (E57) lv57 N en57 c57 (resOf Tryd.f57) 22 [.dv (.str) s0, .dv (.int .i64) i1] [] dec57 = m57 N s0 i1 := by kernel_rfl
theorem ok57 (a : (List UInt8) → Int → Option (List UInt8)) (h : ∀ s0 i1 r, a s0 i1 = some r → (∃ N, m57 N s0 i1 = some r)) : FnOk Tryd.prog 57 (F57 a) := by
 intro args Of x hx
 simp only [F57] at hx
 split at hx
 ·rename_i s0 i1
  obtain ⟨N, hN⟩ := h _ _ _ hx
  refine lifted (L := []) (rc := nrc) (fz := nfz) (fn := Tryd.f57) (by kernel_rfl) (by kernel_rfl) (by kernel_rfl) (by kernel_rfl) rfl ?_ ((k57 N _ _).trans hN) ?_
  ·intro p hp; cases hp
  ·intro l o hd
   simp only [dec57] at hd
   split at hd
   ·obtain rfl := Option.some.inj hd; exact ⟨rfl, rfl⟩
   ·cases hd
 ·cases hx
end Go.Proofs.YtmpbbkldopfkpaaDoor
