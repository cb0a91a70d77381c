/-
  Who is guilty, who is nearest: what the program computes.
-/
import Derived.Test.YtbjfbbfglkmadaaDoorM5
namespace Go.Proofs.YtbjfbbfglkmadaaDoor
open Go.RowKit
set_option linter.unusedVariables false

theorem beqI (x y : Int) : DT.beq (.int .i64) x y = decide (x = y) := by
  show (x == y) = _
  rw [beqDec]
abbrev Mp := List (Int × Int)
abbrev mputI (o : Mp) (x y : Int) : Mp := mput (kt := .int .i64) (vt := .int .i64) o x y
theorem mputI_cons (p : Int × Int) (r : Mp) (x y : Int) : mputI (p :: r) x y = cond (decide (x = p.1)) ((x, y) :: r) (p :: mputI r x y) := by
  show cond (DT.beq (.int .i64) x p.1) _ _ = _
  rw [beqI]
theorem mput_mem (x y : Int) : ∀ {o : Mp}, (o.map (·.1)).Nodup → ((mputI o x y).map (·.1)).Nodup ∧ ∀ k v, (k, v) ∈ mputI o x y ↔ (k = x ∧ v = y) ∨ (k ≠ x ∧ (k, v) ∈ o)
  | [], _ => by
    refine ⟨List.pairwise_singleton _ _, fun k v => ?_⟩
    show (k, v) ∈ [(x, y)] ↔ _
    simp
  | p :: r, h => by
    rw [List.map_cons, List.nodup_cons] at h
    obtain ⟨h1, h2⟩ := h
    rw [mputI_cons]
    by_cases e : x = p.1
    · rw [decide_eq_true e, cond_true]
      refine ⟨by rw [List.map_cons, List.nodup_cons]; exact ⟨by rw [e]; exact h1, h2⟩, fun k v => ?_⟩
      have hx : ∀ v, (x, v) ∉ r := fun v hv => h1 (List.mem_map.2 ⟨(x, v), hv, e⟩)
      obtain ⟨p1, p2⟩ := p
      simp only [List.mem_cons, Prod.mk.injEq] at e ⊢
      constructor
      · rintro (h | h)
        · exact .inl h
        · exact .inr ⟨fun q => hx v (q ▸ h), .inr h⟩
      · rintro (h | ⟨h, h' | h'⟩)
        · exact .inl h
        · exact absurd (h'.1.trans e.symm) h
        · exact .inr h'
    · rw [decide_eq_false e, cond_false]
      obtain ⟨i1, i2⟩ := mput_mem x y h2
      refine ⟨by
        rw [List.map_cons, List.nodup_cons]
        refine ⟨fun hm => ?_, i1⟩
        obtain ⟨⟨k, v⟩, hq, hk⟩ := List.mem_map.1 hm
        rcases (i2 k v).1 hq with h | h
        · exact e (h.1 ▸ hk)
        · exact h1 (List.mem_map.2 ⟨(k, v), h.2, hk⟩), fun k v => ?_⟩
      obtain ⟨p1, p2⟩ := p
      rw [List.mem_cons, i2, List.mem_cons, Prod.mk.injEq]
      constructor
      · rintro (h | h | h)
        · exact .inr ⟨fun q => e (q ▸ h.1), .inl h⟩
        · exact .inl h
        · exact .inr ⟨h.1, .inr h.2⟩
      · rintro (h | ⟨h, h' | h'⟩)
        · exact .inr (.inl h)
        · exact .inl h'
        · exact .inr (.inr ⟨h, h'⟩)
def Cnt (P : List Int) (o : Mp) : Prop := (o.map (·.1)).Nodup ∧ ∀ k v, (k, v) ∈ o ↔ k ∈ P ∧ v = (P.count k : Int)
theorem Cnt.put {P : List Int} {o : Mp} (h : Cnt P o) (x : Int) : Cnt (P ++ [x]) (mputI o x ((P.count x : Int) + 1)) := by
  obtain ⟨h1, h2⟩ := mput_mem x ((P.count x : Int) + 1) h.1
  refine ⟨h1, fun k v => ?_⟩
  rw [h2, h.2, List.count_append, List.mem_append, List.mem_singleton]
  by_cases e : k = x
  · subst e
    rw [show List.count k [k] = 1 by simp]
    constructor
    · rintro (h | h)
      · exact ⟨.inr rfl, by have := h.2; omega⟩
      · exact absurd rfl h.1
    · rintro ⟨_, h⟩
      exact .inl ⟨rfl, by omega⟩
  · rw [show List.count k [x] = 0 from List.count_eq_zero.2 (by simpa using e)]
    constructor
    · rintro (h | ⟨_, h⟩)
      · exact absurd h.1 e
      · exact ⟨.inl h.1, by have := h.2; omega⟩
    · rintro ⟨h | h, h'⟩
      · exact .inr ⟨e, h, by omega⟩
      · exact absurd h e
end Go.Proofs.YtbjfbbfglkmadaaDoor
