/-
 The guilty by all sets; a list with one more member, sorted.
-/
import Derived.Test.YtbjfbbfglkmadaaDoorX1
import Derived.Test.YtbjfbbfglkmadaaDoorM12
import Derived.Test.YtbjfbbfglkmadaaDoorQ43
namespace Go.Proofs.YtbjfbbfglkmadaaDoor
open Go.RowKit
set_option linter.unusedVariables false

def guS (c : Cd) (w : List Int) (z : Int) : Nat → Nat × Bool
 | 0 => (2 ^ c.2.1.length - 1, false)
 | k + 1 => cond (decide (((bs c.2.1.length (k + 1)).length : Int) ≤ z) && mk c (bs c.2.1.length (k + 1)) w) ((guS c w z k).1 &&& (k + 1), true) (guS c w z k)
abbrev guA (c : Cd) (w : List Int) (z : Int) : Nat × Bool := guS c w z (2 ^ c.2.1.length - 1)
theorem guS_lt {c : Cd} {w : List Int} {z : Int} : ∀ k, (guS c w z k).1 < 2 ^ c.2.1.length
 | 0 => by have := Nat.two_pow_pos c.2.1.length; simp only [guS]; omega
 | k + 1 => by
  rw [guS]
  cases decide (((bs c.2.1.length (k + 1)).length : Int) ≤ z) && mk c (bs c.2.1.length (k + 1)) w with
  | true => exact Nat.lt_of_le_of_lt Nat.and_le_left (guS_lt k)
  | false => exact guS_lt k
theorem guS_bit {c : Cd} {w : List Int} {z : Int} {i : Nat} : ∀ k, (guS c w z k).1.testBit i = true ↔ i < c.2.1.length ∧ ∀ q, 1 ≤ q → q ≤ k → ((bs c.2.1.length q).length : Int) ≤ z → mk c (bs c.2.1.length q) w = true → q.testBit i = true
 | 0 => by
  rw [guS, Nat.testBit_two_pow_sub_one, dtq]
  exact ⟨fun h => ⟨h, fun q h1 h2 => by omega⟩, fun h => h.1⟩
 | k + 1 => by
  have ih := guS_bit (c := c) (w := w) (z := z) (i := i) k
  rw [guS]
  cases e : decide (((bs c.2.1.length (k + 1)).length : Int) ≤ z) && mk c (bs c.2.1.length (k + 1)) w with
  | true =>
   rw [bae, dtq] at e
   rw [cond_true, Nat.testBit_and, bae, ih]
   constructor
   ·rintro ⟨⟨h1, h2⟩, h3⟩
    refine ⟨h1, fun q q1 q2 q3 q4 => ?_⟩
    by_cases eq : q = k + 1
    ·rw [eq]; exact h3
    ·exact h2 q q1 (by omega) q3 q4
   ·rintro ⟨h1, h2⟩
    exact ⟨⟨h1, fun q q1 q2 q3 q4 => h2 q q1 (by omega) q3 q4⟩, h2 (k + 1) (by omega) (Nat.le_refl _) e.1 e.2⟩
  | false =>
   rw [cond_false, ih]
   refine and_congr_right fun _ => ⟨fun h q q1 q2 q3 q4 => ?_, fun h q q1 q2 q3 q4 => h q q1 (by omega) q3 q4⟩
   by_cases eq : q = k + 1
   ·subst eq; rw [decide_eq_true q3, q4] at e; cases e
   ·exact h q q1 (by omega) q3 q4
theorem guS_found {c : Cd} {w : List Int} {z : Int} : ∀ k, (guS c w z k).2 = true ↔ ∃ q, 1 ≤ q ∧ q ≤ k ∧ ((bs c.2.1.length q).length : Int) ≤ z ∧ mk c (bs c.2.1.length q) w = true
 | 0 => by
  rw [guS]
  exact ⟨fun h => (by cases h), fun ⟨q, h1, h2, _⟩ => (by omega)⟩
 | k + 1 => by
  have ih := guS_found (c := c) (w := w) (z := z) k
  rw [guS]
  cases e : decide (((bs c.2.1.length (k + 1)).length : Int) ≤ z) && mk c (bs c.2.1.length (k + 1)) w with
  | true =>
   rw [bae, dtq] at e
   exact ⟨fun _ => ⟨k + 1, by omega, Nat.le_refl _, e.1, e.2⟩, fun _ => rfl⟩
  | false =>
   rw [cond_false, ih]
   constructor
   ·rintro ⟨q, h1, h2, h3⟩; exact ⟨q, h1, by omega, h3⟩
   ·rintro ⟨q, h1, h2, h3, h4⟩
    by_cases eq : q = k + 1
    ·subst eq; rw [decide_eq_true h3, h4] at e; cases e
    ·exact ⟨q, h1, by omega, h3, h4⟩
theorem set_co {c : Cd} {z : Int} (hz : 0 ≤ z) {P : List Int → Prop} : (∀ q, 1 ≤ q → q ≤ 2 ^ c.2.1.length - 1 → ((bs c.2.1.length q).length : Int) ≤ z → P (bs c.2.1.length q)) ↔ ∀ x, isCo c.2.1.length z.toNat x → P x := by
 constructor
 ·intro h x hx
  obtain ⟨s, h1, h2, h3, h4⟩ := co_bs hx
  have := h s h1 (by omega) (by rw [h3]; omega)
  rwa [h3] at this
 ·intro h q h1 h2 h3
  exact h _ ((isCo_bs h1 (by have := Nat.two_pow_pos c.2.1.length; omega)).2 (by omega))
theorem guA_found {c : Cd} {w : List Int} {z : Int} (hz : 0 ≤ z) : (guA c w z).2 = true ↔ ∃ x, isCo c.2.1.length z.toNat x ∧ mk c x w = true := by
 rw [guS_found]
 constructor
 ·rintro ⟨q, h1, h2, h3, h4⟩
  exact ⟨_, (isCo_bs h1 (by have := Nat.two_pow_pos c.2.1.length; omega)).2 (by omega), h4⟩
 ·rintro ⟨x, hx, hm⟩
  obtain ⟨s, h1, h2, h3, h4⟩ := co_bs hx
  exact ⟨s, h1, by omega, by rw [h3]; omega, by rw [h3]; exact hm⟩
theorem guA_mem {c : Cd} {w : List Int} {z : Int} (hz : 0 ≤ z) (hw : 0 < w.length) : bs c.2.1.length (guA c w z).1 = gl c w z := by
 refine rise_ext (bs_rise _ _) (gl_rise c w z) fun e => ?_
 rw [bs_mem, gl_mem hw, guS_bit]
 constructor
 ·rintro ⟨h1, h2, _, h3⟩
  refine ⟨⟨h1, h2⟩, (set_co hz (P := fun x => mk c x w = true → e ∈ x)).1 fun q q1 q2 q3 q4 => ?_⟩
  exact bs_mem.2 ⟨h1, h2, h3 q q1 q2 q3 q4⟩
 ·rintro ⟨⟨h1, h2⟩, h3⟩
  have := (set_co (c := c) hz (P := fun x => mk c x w = true → e ∈ x)).2 h3
  exact ⟨h1, h2, by omega, fun q q1 q2 q3 q4 => (bs_mem.1 (this q q1 q2 q3 q4)).2.2⟩
end Go.Proofs.YtbjfbbfglkmadaaDoor
