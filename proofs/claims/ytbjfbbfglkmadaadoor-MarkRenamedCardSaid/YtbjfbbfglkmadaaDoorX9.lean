/-
  Nobody is framed but as stated.
-/
import Derived.Test.YtbjfbbfglkmadaaDoorX1
import Derived.Test.YtbjfbbfglkmadaaDoorQ9
namespace Go.Proofs.YtbjfbbfglkmadaaDoor
open Go.RowKit
set_option linter.unusedVariables false

def FB (c : Cd) (P : List Int → Prop) (b : Option (List Int) × Int) : Prop :=
  (b.1 = none ∧ b.2 = 0 ∧ ∀ x, P x → fi c x 0 c.2.1 = none) ∨ (∃ y, b.1 = some y ∧ P y ∧ fi c y 0 c.2.1 = some b.2 ∧ ∀ x, P x → (fi c x 0 c.2.1).isSome = true → y.length < x.length ∨ (y.length = x.length ∧ (x = y ∨ bf y x = true)))
theorem FB.skip {c : Cd} {P P' : List Int → Prop} {b : Option (List Int) × Int} {x : List Int} (h : FB c P b) (hp : ∀ z, P' z ↔ P z ∨ z = x)
    (hx : fi c x 0 c.2.1 = none ∨ ∃ y, b.1 = some y ∧ (y.length < x.length ∨ (y.length = x.length ∧ (x = y ∨ bf y x = true)))) : FB c P' b := by
  rcases h with ⟨h1, h2, h3⟩ | ⟨y, h1, h2, h3, h4⟩
  · refine .inl ⟨h1, h2, fun z hz => ?_⟩
    rcases (hp z).1 hz with hz | rfl
    · exact h3 z hz
    · rcases hx with hx | ⟨y, hy, _⟩
      · exact hx
      · rw [h1] at hy; cases hy
  · refine .inr ⟨y, h1, (hp y).2 (.inl h2), h3, fun z hz hs => ?_⟩
    rcases (hp z).1 hz with hz | rfl
    · exact h4 z hz hs
    · rcases hx with hx | ⟨y', hy, hx⟩
      · rw [hx] at hs; cases hs
      · rw [h1] at hy; obtain rfl := Option.some.inj hy; exact hx
theorem FB.same {c : Cd} {P P' : List Int → Prop} {b : Option (List Int) × Int} (h : FB c P b) (hp : ∀ z, P' z ↔ P z) : FB c P' b := by
  have : P' = P := funext fun z => propext (hp z)
  rw [this]; exact h
theorem FB.take {c : Cd} {P P' : List Int → Prop} {b : Option (List Int) × Int} {x : List Int} {i : Int} (h : FB c P b) (hp : ∀ z, P' z ↔ P z ∨ z = x)
    (hi : fi c x 0 c.2.1 = some i) (hx : ∀ y, b.1 = some y → x.length < y.length ∨ (x.length = y.length ∧ bf x y = true)) : FB c P' (some x, i) := by
  refine .inr ⟨x, rfl, (hp x).2 (.inr rfl), hi, fun z hz hs => ?_⟩
  rcases (hp z).1 hz with hz | rfl
  · rcases h with ⟨h1, h2, h3⟩ | ⟨y, h1, h2, h3, h4⟩
    · rw [h3 z hz] at hs; cases hs
    · rcases hx y h1 with q | ⟨q1, q2⟩ <;> rcases h4 z hz hs with r | ⟨r1, r2⟩
      · exact .inl (by omega)
      · exact .inl (by omega)
      · exact .inl (by omega)
      · refine .inr ⟨by omega, .inr ?_⟩
        rcases r2 with r2 | r2
        · rw [r2]; exact q2
        · exact bf_trans q2 r2
  · exact .inr ⟨rfl, .inl rfl⟩
theorem frA_FB {c : Cd} : ∀ (l pre : List (List Int)) (b : Option (List Int) × Int), (pre ++ l).Pairwise (fun a b => bf a b = true) → FB c (· ∈ pre) b → FB c (· ∈ pre ++ l) (l.foldl (frS c) b)
  | [], pre, b, _, h => by rw [List.append_nil]; exact h
  | x :: r, pre, b, hs, h => by
    rw [List.foldl_cons, show pre ++ x :: r = (pre ++ [x]) ++ r by simp]
    refine frA_FB r (pre ++ [x]) _ (by simpa using hs) ?_
    have hp : ∀ z, z ∈ pre ++ [x] ↔ z ∈ pre ∨ z = x := fun z => by simp
    have hb : ∀ y, y ∈ pre → bf y x = true := fun y hy => (List.pairwise_append.1 hs).2.2 y hy x (by simp)
    have hmem : ∀ y, b.1 = some y → y ∈ pre := fun y hy => by
      rcases h with ⟨h1, _⟩ | ⟨y', h1, h2, _⟩
      · rw [h1] at hy; cases hy
      · rw [h1] at hy; obtain rfl := Option.some.inj hy; exact h2
    unfold frS
    cases e : b.1.isSome && decide ((b.1.getD []).length ≤ x.length) with
    | true =>
      rw [cond_true]
      cases eb : b.1 with
      | none => rw [eb] at e; cases e
      | some y =>
        rw [eb] at e
        have hl := of_decide_eq_true (show decide (y.length ≤ x.length) = true from e)
        refine h.skip hp (.inr ⟨y, eb, ?_⟩)
        by_cases q : y.length = x.length
        · exact .inr ⟨q, .inr (hb y (hmem y eb))⟩
        · exact .inl (by omega)
    | false =>
      rw [cond_false]
      cases ef : fi c x 0 c.2.1 with
      | none => exact h.skip hp (.inl ef)
      | some i =>
        refine h.take hp ef fun y hy => .inl ?_
        rw [hy] at e
        have := of_decide_eq_false (show decide (y.length ≤ x.length) = false from e)
        omega
theorem frA_best {c : Cd} {z : Int} : FB c (isCo c.2.1.length z.toNat) (frA c z) := by
  have h := frA_FB (c := c) (co c.2.1.length z.toNat) [] (none, 0) (co_sorted _ _) (.inl ⟨rfl, rfl, fun x hx => by cases hx⟩)
  exact h.same fun x => by rw [List.nil_append, co_mem]
theorem fi_at {c : Cd} {x : List Int} {i : Int} : ∀ {l : List (List Int)} {k : Nat}, fi c x k l = some i → ∃ j : Nat, i = (k + j : Nat) ∧ j < l.length ∧ i ∉ x ∧ mk c x (l.getD j []) = true
  | [], k, h => by cases h
  | w :: r, k, h => by
    rw [fi] at h
    cases e : !decide ((k : Int) ∈ x) && mk c x w with
    | true =>
      rw [e] at h
      obtain rfl := Option.some.inj h
      rw [Bool.and_eq_true, Bool.not_eq_true', decide_eq_false_iff_not] at e
      exact ⟨0, rfl, by simp, e.1, e.2⟩
    | false =>
      rw [e] at h
      obtain ⟨j, h1, h2, h3, h4⟩ := fi_at (k := k + 1) h
      exact ⟨j + 1, by omega, by simp; omega, h3, h4⟩
end Go.Proofs.YtbjfbbfglkmadaaDoor
