/-
  The guilty by all sets; a list with one more member, sorted.
-/
import Derived.Test.YtbjfbbfglkmadaaDoorX1
import Derived.Test.YtbjfbbfglkmadaaDoorM12
import Derived.Test.YtbjfbbfglkmadaaDoorQ43
namespace Go.Proofs.YtbjfbbfglkmadaaDoor
open Go.RowKit
set_option linter.unusedVariables false

def guS (c : Cd) (w : List Int) (z : Int) : Nat → Nat × Bool
  | 0 => (2 ^ c.2.1.length - 1, false)
  | k + 1 => cond (decide (((bs c.2.1.length (k + 1)).length : Int) ≤ z) && mk c (bs c.2.1.length (k + 1)) w) ((guS c w z k).1 &&& (k + 1), true) (guS c w z k)
abbrev guA (c : Cd) (w : List Int) (z : Int) : Nat × Bool := guS c w z (2 ^ c.2.1.length - 1)
theorem guS_lt {c : Cd} {w : List Int} {z : Int} : ∀ k, (guS c w z k).1 < 2 ^ c.2.1.length
  | 0 => by have := Nat.two_pow_pos c.2.1.length; simp only [guS]; omega
  | k + 1 => by
    rw [guS]
    cases decide (((bs c.2.1.length (k + 1)).length : Int) ≤ z) && mk c (bs c.2.1.length (k + 1)) w with
    | true => exact Nat.lt_of_le_of_lt Nat.and_le_left (guS_lt k)
    | false => exact guS_lt k
def B43 (c : Cd) (w : List Int) (z : Int) : Option (Int × Bool) := if cdE c = 0 ∧ w.length = sz c then some (((guA c w z).1 : Int), (guA c w z).2) else none
theorem KB43 : FnOk Tryd.prog 43 (F43 B43) := ok43 B44 B45 KB44 KB45 B43 fun c w z r h => ⟨2001, by
  simp only [B43] at h
  split at h
  · rename_i hh
    obtain ⟨hc, hw⟩ := hh
    have hn := (cdE_ok hc).2.1
    have h2 : 2 ^ c.2.1.length ≤ 2 ^ 10 := Nat.pow_le_pow_right (by decide) hn.2
    have h1 : 2 ^ 1 ≤ 2 ^ c.2.1.length := Nat.pow_le_pow_right (by decide) hn.1
    rw [← h, m43, chk_dec (show 0 ≤ (c.2.1.length : Int) by omega), one_i64 (show c.2.1.length < 62 by omega), w64_small (by omega)]
    refine countP' 1 ((2 ^ c.2.1.length : Nat) : Int) (by omega) (fun n (s : Int × Bool) t => l43a B44 B45 2001 c w z n s.1 s.2 t) (fun t s => s = (((guS c w z (t.toNat - 1)).1 : Int), (guS c w z (t.toNat - 1)).2)) (fun r => r = some (((guA c w z).1 : Int), (guA c w z).2)) (fun n s t a b hI ih => ?_) (fun n s hI => ?_) 2001 (((2 ^ c.2.1.length : Nat) : Int) - 1, false) (by omega) ?_
    · subst hI
      obtain ⟨q, rfl⟩ : ∃ j : Nat, t = ((j + 1 : Nat) : Int) := ⟨t.toNat - 1, by omega⟩
      have hq : q + 1 < 2 ^ c.2.1.length := by omega
      have h44 : B44 ((q + 1 : Nat) : Int) = some (bs c.2.1.length (q + 1)) := by rw [B44, if_pos (by omega), Int.toNat_natCast, bs_10 hq hn.2]
      have h45 : B45 c ((q + 1 : Nat) : Int) w = some (mk c (bs c.2.1.length (q + 1)) w) := by rw [B45, if_pos ⟨hc, by omega, hw⟩, Int.toNat_natCast]
      have hlt := guS_lt (c := c) (w := w) (z := z) q
      have go : ∀ s : Int × Bool, s = (((guS c w z (q + 1)).1 : Int), (guS c w z (q + 1)).2) → l43a B44 B45 2001 c w z n s.1 s.2 ((q + 1 + 1 : Nat) : Int) = some (((guA c w z).1 : Int), (guA c w z).2) := fun s hs => by
        have := ih s (by rw [show (((q + 1 : Nat) : Int) + 1).toNat - 1 = q + 1 by omega]; exact hs)
        rw [show (((q + 1 : Nat) : Int) + 1) = ((q + 1 + 1 : Nat) : Int) by omega] at this
        exact this
      rw [show (((q + 1 : Nat) : Int)).toNat - 1 = q by omega]
      simp only [l43a, chk_dec (show 0 ≤ (c.2.1.length : Int) by omega), one_i64 (show c.2.1.length < 62 by omega), decide_eq_true b, cond_true, h44, Option.bind_some, h45, ixW hq (by omega)]
      rw [bAnd_i64 (by omega) (by omega)]
      cases e1 : decide (((bs c.2.1.length (q + 1)).length : Int) ≤ z) with
      | false => rw [cond_false]; exact go (_, _) (by rw [guS, e1]; rfl)
      | true =>
        rw [cond_true]
        cases e2 : mk c (bs c.2.1.length (q + 1)) w with
        | false => rw [cond_false]; exact go (_, _) (by rw [guS, e1, e2]; rfl)
        | true => rw [cond_true]; exact go (_, _) (by rw [guS, e1, e2]; rfl)
    · subst hI
      simp only [l43a, chk_dec (show 0 ≤ (c.2.1.length : Int) by omega), one_i64 (show c.2.1.length < 62 by omega), decide_eq_false (Int.lt_irrefl _), cond_false]
      rw [Int.toNat_natCast]
    · rw [show (1 : Int).toNat - 1 = 0 from rfl, guS]
      exact Prod.ext (by simp only; omega) rfl
  · cases h⟩
theorem guS_bit {c : Cd} {w : List Int} {z : Int} {i : Nat} : ∀ k, (guS c w z k).1.testBit i = true ↔ i < c.2.1.length ∧ ∀ q, 1 ≤ q → q ≤ k → ((bs c.2.1.length q).length : Int) ≤ z → mk c (bs c.2.1.length q) w = true → q.testBit i = true
  | 0 => by
    rw [guS, Nat.testBit_two_pow_sub_one, decide_eq_true_eq]
    exact ⟨fun h => ⟨h, fun q h1 h2 => by omega⟩, fun h => h.1⟩
  | k + 1 => by
    have ih := guS_bit (c := c) (w := w) (z := z) (i := i) k
    rw [guS]
    cases e : decide (((bs c.2.1.length (k + 1)).length : Int) ≤ z) && mk c (bs c.2.1.length (k + 1)) w with
    | true =>
      rw [Bool.and_eq_true, decide_eq_true_eq] at e
      rw [cond_true, Nat.testBit_and, Bool.and_eq_true, ih]
      constructor
      · rintro ⟨⟨h1, h2⟩, h3⟩
        refine ⟨h1, fun q q1 q2 q3 q4 => ?_⟩
        by_cases eq : q = k + 1
        · rw [eq]; exact h3
        · exact h2 q q1 (by omega) q3 q4
      · rintro ⟨h1, h2⟩
        exact ⟨⟨h1, fun q q1 q2 q3 q4 => h2 q q1 (by omega) q3 q4⟩, h2 (k + 1) (by omega) (Nat.le_refl _) e.1 e.2⟩
    | false =>
      rw [cond_false, ih]
      refine and_congr_right fun _ => ⟨fun h q q1 q2 q3 q4 => ?_, fun h q q1 q2 q3 q4 => h q q1 (by omega) q3 q4⟩
      by_cases eq : q = k + 1
      · subst eq; rw [decide_eq_true q3, q4] at e; cases e
      · exact h q q1 (by omega) q3 q4
theorem guS_found {c : Cd} {w : List Int} {z : Int} : ∀ k, (guS c w z k).2 = true ↔ ∃ q, 1 ≤ q ∧ q ≤ k ∧ ((bs c.2.1.length q).length : Int) ≤ z ∧ mk c (bs c.2.1.length q) w = true
  | 0 => by
    rw [guS]
    exact ⟨fun h => (by cases h), fun ⟨q, h1, h2, _⟩ => (by omega)⟩
  | k + 1 => by
    have ih := guS_found (c := c) (w := w) (z := z) k
    rw [guS]
    cases e : decide (((bs c.2.1.length (k + 1)).length : Int) ≤ z) && mk c (bs c.2.1.length (k + 1)) w with
    | true =>
      rw [Bool.and_eq_true, decide_eq_true_eq] at e
      exact ⟨fun _ => ⟨k + 1, by omega, Nat.le_refl _, e.1, e.2⟩, fun _ => rfl⟩
    | false =>
      rw [cond_false, ih]
      constructor
      · rintro ⟨q, h1, h2, h3⟩; exact ⟨q, h1, by omega, h3⟩
      · rintro ⟨q, h1, h2, h3, h4⟩
        by_cases eq : q = k + 1
        · subst eq; rw [decide_eq_true h3, h4] at e; cases e
        · exact ⟨q, h1, by omega, h3, h4⟩
theorem set_co {c : Cd} {z : Int} (hz : 0 ≤ z) {P : List Int → Prop} : (∀ q, 1 ≤ q → q ≤ 2 ^ c.2.1.length - 1 → ((bs c.2.1.length q).length : Int) ≤ z → P (bs c.2.1.length q)) ↔ ∀ x, isCo c.2.1.length z.toNat x → P x := by
  constructor
  · intro h x hx
    obtain ⟨s, h1, h2, h3, h4⟩ := co_bs hx
    have := h s h1 (by omega) (by rw [h3]; omega)
    rwa [h3] at this
  · intro h q h1 h2 h3
    exact h _ ((isCo_bs h1 (by have := Nat.two_pow_pos c.2.1.length; omega)).2 (by omega))
theorem guA_found {c : Cd} {w : List Int} {z : Int} (hz : 0 ≤ z) : (guA c w z).2 = true ↔ ∃ x, isCo c.2.1.length z.toNat x ∧ mk c x w = true := by
  rw [guS_found]
  constructor
  · rintro ⟨q, h1, h2, h3, h4⟩
    exact ⟨_, (isCo_bs h1 (by have := Nat.two_pow_pos c.2.1.length; omega)).2 (by omega), h4⟩
  · rintro ⟨x, hx, hm⟩
    obtain ⟨s, h1, h2, h3, h4⟩ := co_bs hx
    exact ⟨s, h1, by omega, by rw [h3]; omega, by rw [h3]; exact hm⟩
theorem guA_mem {c : Cd} {w : List Int} {z : Int} (hz : 0 ≤ z) (hw : 0 < w.length) : bs c.2.1.length (guA c w z).1 = gl c w z := by
  refine rise_ext (bs_rise _ _) (gl_rise c w z) fun e => ?_
  rw [bs_mem, gl_mem hw, guS_bit]
  constructor
  · rintro ⟨h1, h2, _, h3⟩
    refine ⟨⟨h1, h2⟩, (set_co hz (P := fun x => mk c x w = true → e ∈ x)).1 fun q q1 q2 q3 q4 => ?_⟩
    exact bs_mem.2 ⟨h1, h2, h3 q q1 q2 q3 q4⟩
  · rintro ⟨⟨h1, h2⟩, h3⟩
    have := (set_co (c := c) hz (P := fun x => mk c x w = true → e ∈ x)).2 h3
    exact ⟨h1, h2, by omega, fun q q1 q2 q3 q4 => (bs_mem.1 (this q q1 q2 q3 q4)).2.2⟩
end Go.Proofs.YtbjfbbfglkmadaaDoor
