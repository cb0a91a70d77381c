/-
 Count: in how many orders the letters can be opened.
-/
import Derived.Test.YtmpbbkldopfkpaaDoorL4
namespace Go.Proofs.YtmpbbkldopfkpaaDoor
open Go.RowKit
set_option linter.unusedVariables false

def Fp (D : UInt8 → UInt8 → Bool) (log : Wd) : Nat → List Nat → Nat
 | 0, _ => 1
 | n + 1, S => (S.map fun i => if fr D log S i = true then Fp D log n (S.erase i) else 0).sum
theorem sum_le {α : Type} (l : List α) (f : α → Nat) (b : Nat) (h : ∀ x ∈ l, f x ≤ b) : (l.map f).sum ≤ l.length * b := by
 induction l with
 | nil => simp
 | cons x l ih =>
  have h1 := h x (by simp)
  have h2 := ih fun y hy => h y (by simp [hy])
  simp only [List.map_cons, List.sum_cons, List.length_cons, Nat.add_mul, Nat.one_mul]; omega
theorem Fp_le (D : UInt8 → UInt8 → Bool) (log : Wd) : ∀ (n : Nat) (S : List Nat), S.length ≤ 14 → Fp D log n S ≤ 14 ^ n
 | 0, S, _ => by simp [Fp]
 | n + 1, S, h => by
  simp only [Fp]
  refine Nat.le_trans (sum_le S _ (14 ^ n) fun i hi => ?_) ?_
  ·split
   ·exact Fp_le D log n _ (Nat.le_trans (List.length_erase_le) h)
   ·exact Nat.zero_le _
  ·rw [Nat.pow_succ, Nat.mul_comm]; exact Nat.mul_le_mul_left _ h
def Rm (n m : Nat) : List Nat := (List.range n).filter fun i => !m.testBit i
section
variable (D : UInt8 → UInt8 → Bool) (log : Wd)

def Fm (m : Nat) : Nat := Fp D log (Rm log.length m).length (Rm log.length m)
def wt (c : List (Int × Int)) : Nat := (c.map fun e => e.2.toNat * Fm D log e.1.toNat).sum
end

theorem eachK_of {β : Type} {f : β → List β → Option Unit} {x0 : Option Unit} (l : List β) (h0 : l = [] → x0 = some ()) (h1 : ∀ u q v, l = u ++ q :: v → f q (u ++ v) = some ()) : eachK l x0 f = some () := by
 cases l with
 | nil => exact h0 rfl
 | cons p r =>
  show eachF f [] p r = some ()
  have main : ∀ (r pre : List β) (p : β), (∀ u q v, pre ++ p :: r = u ++ q :: v → f q (u ++ v) = some ()) → eachF f pre p r = some () := by
   intro r
   induction r with
   | nil => intro pre p h; simp only [eachF]; simpa using h pre p [] rfl
   | cons x r ih =>
    intro pre p h
    simp only [eachF]
    have a := h pre p (x :: r) rfl
    have b := ih (pre ++ [p]) x fun u q v e => h u q v (by rw [← e]; simp)
    rw [a, b]; rfl
  exact main r [] p fun u q v e => h1 u q v (by simpa using e)
def Nd (B : Nat → Nat → Bool) (d : List Int) : Prop := d.length = 14 ∧ ∀ i, i < 14 → ∃ m : Nat, m < 16384 ∧ d.getD i 0 = (m : Int) ∧ ∀ j, m.testBit j = B i j
theorem Nd.of {B C : Nat → Nat → Bool} {d : List Int} (h : Nd B d) (e : ∀ i j, B i j = C i j) : Nd C d :=
 ⟨h.1, fun i hi => let ⟨m, a, b, c⟩ := h.2 i hi; ⟨m, a, b, fun j => (c j).trans (e i j)⟩⟩
theorem Nd.put {B : Nat → Nat → Bool} {d : List Int} (h : Nd B d) {x y : Nat} (hx : x < 14) (hy : y < 14) :
  Nd (fun i j => B i j || (decide (i = x) && decide (y = j))) (d.set x (bOr .u64 (d.getD x 0) ((2 ^ y : Nat) : Int))) := by
 obtain ⟨m, h1, h2, h3⟩ := h.2 x hx
 have hp : 2 ^ y < 2 ^ 14 := Nat.pow_lt_pow_right (by decide) hy
 have h14 : (2 : Nat) ^ 14 = 16384 := by decide
 rw [h2, bOr_u64 (by omega) (by omega)]
 refine ⟨by rw [List.length_set]; exact h.1, fun i hi => ?_⟩
 have hg : (d.set x ((m ||| 2 ^ y : Nat) : Int)).getD i 0 = if i = x then ((m ||| 2 ^ y : Nat) : Int) else d.getD i 0 := by
  rw [List.getD_eq_getElem?_getD, List.getElem?_set, List.getD_eq_getElem?_getD]
  by_cases h' : i = x
  ·subst h'; rw [if_pos rfl, if_pos (by rw [h.1]; omega), if_pos rfl]; rfl
  ·rw [if_neg (fun e => h' e.symm), if_neg h']
 rw [hg]
 by_cases hix : i = x
 ·subst hix
  refine ⟨m ||| 2 ^ y, ?_, by rw [if_pos rfl], fun j => ?_⟩
  ·rw [← h14]; exact Nat.or_lt_two_pow (by omega) hp
  ·rw [Nat.testBit_or, h3, Nat.testBit_two_pow]; simp
 ·obtain ⟨m', a1, a2, a3⟩ := h.2 i hi
  exact ⟨m', a1, by rw [if_neg hix]; exact a2, fun j => by rw [a3]; simp [hix]⟩
section
variable {o : Of} (h0 : errO o = 0) {log : Wd} (hn : log.length ≤ 14) (hw : Ls o log)
include h0 hn hw

omit h0 hw in
omit h0 hn hw in
omit h0 hw in
omit h0 hn hw in
omit h0 hn hw in
omit h0 hn hw in
omit h0 hw in
end

end Go.Proofs.YtmpbbkldopfkpaaDoor
