/-
  Benches: the plans that are made are valid.
-/
import Derived.Test.YtjcgjbdlgmbepaaS6
namespace Go.Proofs.Ytjcgjbdlgmbepaa
open Go.RowKit
set_option linter.unusedVariables false

theorem panE_iff {st : Int} {o : List Int} : ∀ {xs : List Int} {last : Int}, panE st o last xs = 0 ↔ (∀ x ∈ xs, last < x) ∧ xs.Pairwise (· < ·) ∧ (∀ x ∈ xs, 0 ≤ x ∧ x ≤ st - 1) ∧ (∀ x ∈ xs, o.contains x = false)
  | [], last => by simp [panE]
  | y :: ys, last => by
    constructor
    · intro h
      obtain ⟨h1, h2, h3⟩ := panE_tail h
      obtain ⟨a, b, c, d⟩ := panE_iff.1 h1
      refine ⟨fun x hx => ?_, List.pairwise_cons.2 ⟨a, b⟩, fun x hx => ?_, fun x hx => panE_zero h x hx⟩
      · rcases List.mem_cons.1 hx with rfl | hx
        · exact h2
        · have := a x hx; omega
      · rcases List.mem_cons.1 hx with rfl | hx
        · exact h3
        · exact c x hx
    · intro ⟨a, b, c, d⟩
      obtain ⟨b1, b2⟩ := List.pairwise_cons.1 b
      rw [panE_go (c y (List.mem_cons_self ..)) (by have := a y (List.mem_cons_self ..); omega) (d y (List.mem_cons_self ..))]
      exact panE_iff.2 ⟨b1, b2, fun x hx => c x (List.mem_cons_of_mem _ hx), fun x hx => d x (List.mem_cons_of_mem _ hx)⟩

/-- A weighing is valid just if .. -/
structure Valid (n : Int) (w : Wg) : Prop where
  pos : w.1.length ≠ 0
  same : w.1.length = w.2.1.length
  asc1 : w.1.Pairwise (· < ·)
  asc2 : w.2.1.Pairwise (· < ·)
  in1 : ∀ x ∈ w.1, 0 ≤ x ∧ x ≤ n - 1
  in2 : ∀ x ∈ w.2.1, 0 ≤ x ∧ x ≤ n - 1
  apart : ∀ x ∈ w.2.1, x ∉ w.1
theorem contains_false {l : List Int} {x : Int} : l.contains x = false ↔ x ∉ l := by
  rw [← List.contains_iff_mem]; simp
theorem valid_iff {n : Int} {w : Wg} : wgE n w = 0 ↔ Valid n w := by
  constructor
  · intro h
    obtain ⟨a, b, c, d⟩ := wgE_zero h
    obtain ⟨c1, c2, c3, c4⟩ := panE_iff.1 c
    obtain ⟨d1, d2, d3, d4⟩ := panE_iff.1 d
    exact ⟨a, b, c2, d2, c3, d3, fun x hx => contains_false.1 (d4 x hx)⟩
  · intro h
    have e1 : panE n [] (-1) w.1 = 0 := panE_iff.2 ⟨fun x hx => by have := h.in1 x hx; omega, h.asc1, h.in1, fun x hx => rfl⟩
    have e2 : panE n w.1 (-1) w.2.1 = 0 := panE_iff.2 ⟨fun x hx => by have := h.in2 x hx; omega, h.asc2, h.in2, fun x hx => contains_false.2 (h.apart x hx)⟩
    have p1 := h.pos
    have p2 := h.same
    have q1 : (w.1.length == 0) = false := by rw [beq_eq_false_iff_ne]; omega
    have q2 : (w.2.1.length == 0) = false := by rw [beq_eq_false_iff_ne]; omega
    have q3 : (w.1.length != w.2.1.length) = false := by simp [p2]
    rw [wgE, q1, q2, q3, e1, e2]; rfl

/-- The number of stones of a bench. -/
def nS (b : Int × List (List Int) × Unit) : Int := w64 (3 + (Int.tmod (w64 (b.1)) 7))
theorem nS_bound {b : Int × List (List Int) × Unit} (h : 0 ≤ b.1 ∧ b.1 ≤ 255) : 3 ≤ nS b ∧ nS b ≤ 9 := by
  have e1 : w64 b.1 = b.1 := w64_small (by omega)
  have e2 : Int.tmod b.1 7 = b.1 % 7 := Int.tmod_eq_emod_of_nonneg h.1
  unfold nS
  rw [e1, e2, w64_small (by omega)]; omega
theorem two_ok : ∀ n ∈ [(3 : Int), 4, 5, 6, 7, 8, 9], ∀ i ∈ [(0 : Int), 1, 2], wgE n ([Int.tmod i n], [Int.tmod (i + 1) n], ()) = 0 := by decide +kernel
def B51 (l : List Int) : Option (List Int) := some l
theorem KB51 : FnOk Try.prog 51 (F51 B51) := ok51 B51 fun l r h => ⟨0, h⟩

theorem imin_nat (a b : Nat) : imin (a : Int) (b : Int) = ((min a b : Nat) : Int) := by
  unfold imin; split <;> omega
/-- What a bench makes is a valid plan. -/
theorem made_ok (b : Int × List (List Int) × Unit) (hb : 0 ≤ b.1 ∧ b.1 ≤ 255) : ∃ p, m48 B51 1001 b = some (nS b, p) ∧ p.length ≤ 3 ∧ ∀ w ∈ p, Valid (nS b) w := by
  obtain ⟨n3, n9⟩ := nS_bound hb
  have hn : ∀ x, w64 (3 + (Int.tmod (w64 (b.1)) 7)) = x ↔ nS b = x := fun x => Iff.rfl
  unfold m48
  refine countP' 0 3 (by omega) (fun m (p : List Wg) t => l48a B51 1001 b m t p) (fun t p => (p.length : Int) = t ∧ ∀ w ∈ p, Valid (nS b) w) (fun r => ∃ p, r = some (nS b, p) ∧ p.length ≤ 3 ∧ ∀ w ∈ p, Valid (nS b) w) ?_ ?_ 1001 [] (by omega) ⟨rfl, fun w hw => by cases hw⟩
  · intro m p i h0 h3 ⟨hl, hv⟩ ih
    obtain ⟨k, rfl⟩ : ∃ k : Nat, i = (k : Int) := ⟨i.toNat, by omega⟩
    simp only [l48a]
    by_cases hk : k < b.2.1.length
    · rw [ixA hk, cond_true, decide_eq_true (show (k : Int) < 3 from h3), cond_true]
      have hwi : w64 ((k : Int) + 1) = (k : Int) + 1 := w64_small (by omega)
      -- the pans of one weighing
      refine countP' 0 (nS b) (by omega) (fun m' (s : List Int × List Int) t => l48b B51 1001 b (k : Int) p (fun y0 y1 => l48a B51 1001 b m y0 y1) m' t s.1 s.2)
        (fun t s => s.1.Pairwise (· < ·) ∧ s.2.Pairwise (· < ·) ∧ (∀ x ∈ s.1, 0 ≤ x ∧ x < t) ∧ (∀ x ∈ s.2, 0 ≤ x ∧ x < t) ∧ (∀ x ∈ s.2, x ∉ s.1) ∧ (s.1.length : Int) ≤ t ∧ (s.2.length : Int) ≤ t) (fun r => ∃ q, r = some (nS b, q) ∧ q.length ≤ 3 ∧ ∀ w ∈ q, Valid (nS b) w) ?_ ?_ 1001 ([], []) (by omega) (by simp)
      · intro m' s t t0 t1 ⟨i1, i2, i3, i4, i5, i6, i7⟩ ih'
        have e1 : decide (t < w64 (3 + (Int.tmod (w64 (b.1)) 7))) = true := decide_eq_true t1
        have e2 : decide (0 ≤ t ∧ t < 9) = true := decide_eq_true (by omega)
        have e3 : w64 (t + 1) = t + 1 := w64_small (by omega)
        have s1 : small (s.1.length + 1) 8 = true := small_of (by omega) (by omega)
        have s2 : small (s.2.length + 1) 8 = true := small_of (by omega) (by omega)
        have up : ∀ {l : List Int}, (∀ x ∈ l, 0 ≤ x ∧ x < t) → ∀ x ∈ l, 0 ≤ x ∧ x < t + 1 := fun h x hx => by have := h x hx; omega
        have asc : ∀ {l : List Int}, l.Pairwise (· < ·) → (∀ x ∈ l, 0 ≤ x ∧ x < t) → (l ++ [t]).Pairwise (· < ·) := fun h h' => List.pairwise_append.2 ⟨h, List.pairwise_singleton .., fun x hx y hy => by simp at hy; subst hy; exact (h' x hx).2⟩
        have upt : ∀ {l : List Int}, (∀ x ∈ l, 0 ≤ x ∧ x < t) → ∀ x ∈ l ++ [t], 0 ≤ x ∧ x < t + 1 := fun h x hx => by
          rcases List.mem_append.1 hx with hx | hx
          · have := h x hx; omega
          · simp at hx; subst hx; omega
        simp only [l48b, e1, cond_true, ixB hk, chk_true, e2, e3, s1, s2]
        cases Int.tmod ((b.2.1.getD (k : Int).toNat [0, 0, 0, 0, 0, 0, 0, 0, 0]).getD t.toNat 0) 3 == 1 with
        | true =>
          refine ih' (s.1 ++ [t], s.2) ⟨asc i1 i3, i2, upt i3, up i4, ?_, by simp; omega, by simp; omega⟩
          intro x hx hx'
          rcases List.mem_append.1 hx' with h' | h'
          · exact i5 x hx h'
          · simp at h'; subst h'; have := i4 x hx; omega
        | false =>
          cases Int.tmod ((b.2.1.getD (k : Int).toNat [0, 0, 0, 0, 0, 0, 0, 0, 0]).getD t.toNat 0) 3 == 2 with
          | true =>
            refine ih' (s.1, s.2 ++ [t]) ⟨i1, asc i2 i4, up i3, upt i4, ?_, by simp; omega, by simp; omega⟩
            intro x hx hx'
            rcases List.mem_append.1 hx with h' | h'
            · exact i5 x h' hx'
            · simp at h'; subst h'; have := i3 x hx'; omega
          | false => exact ih' s ⟨i1, i2, up i3, up i4, i5, by omega, by omega⟩
      · intro m' s ⟨i1, i2, i3, i4, i5, i6, i7⟩
        have e1 : decide (nS b < w64 (3 + (Int.tmod (w64 (b.1)) 7))) = false := decide_eq_false (show ¬ nS b < nS b by omega)
        have e2 : decide (w64 (3 + (Int.tmod (w64 (b.1)) 7)) ≠ 0) = true := decide_eq_true (show nS b ≠ 0 by omega)
        have s3 : small (p.length + 1) 48 = true := small_of (by omega) (by omega)
        simp only [l48b, e1, cond_false, imin_nat, hwi, e2, chk_true, B51, Option.bind_some, s3, List.drop_zero, Int.toNat_natCast]
        have fin : ∀ w, Valid (nS b) w → ∃ q, l48a B51 1001 b m ((k : Int) + 1) (p ++ [w]) = some (nS b, q) ∧ q.length ≤ 3 ∧ ∀ w ∈ q, Valid (nS b) w := fun w hw => ih (p ++ [w]) ⟨by simp; omega, fun v hv' => by
          rcases List.mem_append.1 hv' with h' | h'
          · exact hv v h'
          · simp at h'; subst h'; exact hw⟩
        by_cases hz : min s.1.length s.2.length = 0
        · have e3 : (((min s.1.length s.2.length : Nat) : Int) == 0) = true := by rw [hz]; rfl
          rw [e3, cond_true]
          refine fin _ (valid_iff.1 ?_)
          exact two_ok (nS b) (by simp; omega) (k : Int) (by simp; omega)
        · have e3 : (((min s.1.length s.2.length : Nat) : Int) == 0) = false := by rw [beq_eq_false_iff_ne]; omega
          rw [e3, cond_false, chk_dec (show 0 ≤ ((min s.1.length s.2.length : Nat) : Int) ∧ ((min s.1.length s.2.length : Nat) : Int) ≤ (s.1.length : Int) by omega), chk_dec (show 0 ≤ ((min s.1.length s.2.length : Nat) : Int) ∧ ((min s.1.length s.2.length : Nat) : Int) ≤ (s.2.length : Int) by omega)]
          refine fin _ ⟨by rw [List.length_take]; omega, by rw [List.length_take, List.length_take]; omega, i1.sublist (List.take_sublist ..), i2.sublist (List.take_sublist ..), fun x hx => ?_, fun x hx => ?_, fun x hx hx' => i5 x (List.mem_of_mem_take hx) (List.mem_of_mem_take hx')⟩
          · have := i3 x (List.mem_of_mem_take hx); omega
          · have := i4 x (List.mem_of_mem_take hx); omega
    · rw [decide_eq_false (show ¬ (k : Int) < (b.2.1.length : Int) by omega), cond_false]
      exact ⟨p, rfl, by omega, hv⟩
  · intro m p ⟨hl, hv⟩
    simp only [l48a]
    refine ⟨p, ?_, by omega, hv⟩
    rw [show decide ((3 : Int) < 3) = false from rfl, cond_false]
    cases decide (3 < (b.2.1.length : Int)) <;> rfl
def B48 (b : Int × List (List Int) × Unit) : Option (Int × List Wg) := m48 B51 1001 b
theorem KB48 : FnOk Try.prog 48 (F48 B48) := ok48 B51 KB51 B48 fun b r h => ⟨1001, h⟩
end Go.Proofs.Ytjcgjbdlgmbepaa
