/-
 All coalitions, in their order.
-/
import Derived.Test.YtfopcfnggdonkaaGreatDoorM2
namespace Go.Proofs.YtfopcfnggdonkaaGreatDoor
open Go.RowKit
set_option linter.unusedVariables false
def gs (N : Nat) : Nat -> Nat -> List (List Int)
 | 0, _ => []
 | k + 1, i => (List.range' i (N - i)).flatMap fun (j : Nat) => [(j : Int)] :: (gs N k (j + 1)).map fun x => (j : Int) :: x
theorem ae5 (N : Nat) : ∀ (k : Nat) (L : List Int) (i : Nat), gr N k L i = (gs N k i).map fun x => L ++ x
 | 0, L, i => rfl
 | k + 1, L, i => by
  rw [gr, gs, List.map_flatMap]
  congr 1
  funext j
  rw [ae5 N k (L ++ [(j : Int)]) (j + 1), List.map_cons, List.map_map]
  congr 1
  exact List.map_congr_left fun x _ => by simp
def co (N k : Nat) : List (List Int) := gs N k 0
theorem avF (N k : Nat) : gr N k [] 0 = co N k := by rw [ae5]; simp [co]
def NQ (N k : Nat) (x : List Int) : Prop := x ≠ [] /\ x.length <= k /\ x.Pairwise (· < ·) /\ ∀ e ∈ x, 0 <= e /\ e < N
theorem Rx (N : Nat) : ∀ (k i : Nat) (x : List Int), x ∈ gs N k i ↔ x ≠ [] /\ x.length <= k /\ x.Pairwise (· < ·) /\ ∀ e ∈ x, (i : Int) <= e /\ e < N
 | 0, i, x => by
  simp only [gs, List.not_mem_nil, false_iff]
  rintro ⟨h1, h2, _⟩
  exact h1 (List.eq_nil_of_length_eq_zero (by omega))
 | k + 1, i, x => by
  simp only [gs, List.mem_flatMap, List.mem_range'_1, List.mem_cons, List.mem_map]
  constructor
  ·rintro ⟨j, hj, h⟩
   rcases h with rfl | ⟨y, hy, rfl⟩
   ·refine ⟨by simp, by simp, List.pairwise_singleton _ _, fun e he => ?_⟩
    rw [List.mem_singleton.1 he]; omega
   ·obtain ⟨a1, a2, a3, a4⟩ := (Rx N k (j + 1) y).1 hy
    refine ⟨by simp, by simp; omega, List.pairwise_cons.2 ⟨fun e he => by have := a4 e he; omega, a3⟩, fun e he => ?_⟩
    rcases List.mem_cons.1 he with rfl | he
    ·omega
    ·have := a4 e he; omega
  ·rintro ⟨h1, h2, h3, h4⟩
   match x, h1, h2, h3, h4 with
   | e :: y, _, h2, h3, h4 =>
    have he := h4 e (by simp)
    obtain ⟨h5, h6⟩ := List.pairwise_cons.1 h3
    refine ⟨e.toNat, by omega, ?_⟩
    have ee : ((e.toNat : Nat) : Int) = e := by omega
    rw [ee]
    cases y with
    | nil => exact .inl rfl
    | cons f z => exact .inr ⟨f :: z, (Rx N k (e.toNat + 1) (f :: z)).2 ⟨by simp, by simp at h2 ⊢; omega, h6, fun g hg => by have := h5 g hg; have := h4 g (by simp [hg]); omega⟩, rfl⟩
theorem Ox {N k : Nat} {x : List Int} : x ∈ co N k ↔ NQ N k x := by
 rw [co, Rx]; exact Iff.rfl
theorem akR : ∀ {x : List Int} {lo : Nat} {N : Nat}, x.Pairwise (· < ·) -> (∀ e ∈ x, (lo : Int) <= e /\ e < N) -> x.length <= N - lo
 | [], _, _, _, _ => Nat.zero_le _
 | e :: y, lo, N, h, hm => by
  obtain ⟨h1, h2⟩ := List.pairwise_cons.1 h
  have he := hm e (by simp)
  have := akR (x := y) (lo := e.toNat + 1) (N := N) h2 fun g hg => by have := h1 g hg; have := hm g (by simp [hg]); omega
  simp only [List.length_cons]; omega
theorem afW {N k : Nat} {x : List Int} (h : NQ N k x) : x.length <= N := by
 have := akR (lo := 0) h.2.2.1 fun e he => by have := h.2.2.2 e he; omega
 omega
def bs (N set : Nat) : List Int := ((List.range N).filter fun i => set.testBit i).map fun i => ((i : Nat) : Int)
end Go.Proofs.YtfopcfnggdonkaaGreatDoor
