/-
  All coalitions, in their order.
-/
import Derived.Test.YtbjfbbfglkmadaaDoorMP
namespace Go.Proofs.YtbjfbbfglkmadaaDoor
open Go.RowKit
set_option linter.unusedVariables false

def gs (N : Nat) : Nat → Nat → List (List Int)
  | 0, _ => []
  | k + 1, i => (List.range' i (N - i)).flatMap fun (j : Nat) => [(j : Int)] :: (gs N k (j + 1)).map fun x => (j : Int) :: x
def co (N k : Nat) : List (List Int) := gs N k 0
def isCo (N k : Nat) (x : List Int) : Prop := x ≠ [] ∧ x.length ≤ k ∧ x.Pairwise (· < ·) ∧ ∀ e ∈ x, 0 ≤ e ∧ e < N
theorem rise_len : ∀ {x : List Int} {lo : Nat} {N : Nat}, x.Pairwise (· < ·) → (∀ e ∈ x, (lo : Int) ≤ e ∧ e < N) → x.length ≤ N - lo
  | [], _, _, _, _ => Nat.zero_le _
  | e :: y, lo, N, h, hm => by
    obtain ⟨h1, h2⟩ := List.pairwise_cons.1 h
    have he := hm e (by simp)
    have := rise_len (x := y) (lo := e.toNat + 1) (N := N) h2 fun g hg => by have := h1 g hg; have := hm g (by simp [hg]); omega
    simp only [List.length_cons]; omega
def bs (N set : Nat) : List Int := ((List.range N).filter fun i => set.testBit i).map fun i => ((i : Nat) : Int)
theorem bs_mem {N set : Nat} {e : Int} : e ∈ bs N set ↔ 0 ≤ e ∧ e < N ∧ set.testBit e.toNat = true := by
  simp only [bs, List.mem_map, List.mem_filter, List.mem_range]
  constructor
  · rintro ⟨i, ⟨h1, h2⟩, rfl⟩
    exact ⟨by omega, by omega, by rw [Int.toNat_natCast]; exact h2⟩
  · rintro ⟨h1, h2, h3⟩
    exact ⟨e.toNat, ⟨by omega, h3⟩, by omega⟩
theorem bs_rise (N set : Nat) : (bs N set).Pairwise (· < ·) := by
  unfold bs
  rw [List.pairwise_map]
  exact (List.pairwise_lt_range.filter _).imp fun h => by omega
theorem rise_ext {x y : List Int} (hx : x.Pairwise (· < ·)) (hy : y.Pairwise (· < ·)) (hm : ∀ e, e ∈ x ↔ e ∈ y) : x = y :=
  List.Perm.eq_of_pairwise (le := fun a b => a < b) (fun a b _ _ h1 h2 => by omega) hx hy ((List.perm_ext_iff_of_nodup (hx.imp fun h e => by omega) (hy.imp fun h e => by omega)).2 hm)
def num (x : List Int) : Nat := x.foldl (fun a i => a ||| 2 ^ i.toNat) 0
theorem num_bit (x : List Int) (j : Nat) (h : ∀ e ∈ x, 0 ≤ e) : (num x).testBit j = decide ((j : Int) ∈ x) := by
  unfold num
  rw [orF_bit, Nat.zero_testBit, Bool.false_or, Bool.eq_iff_iff, List.any_eq_true, decide_eq_true_eq]
  constructor
  · rintro ⟨e, he, hb⟩
    rw [bit_pow, decide_eq_true_eq] at hb
    have := h e he
    rwa [show (j : Int) = e by omega]
  · intro hj
    exact ⟨j, hj, by rw [bit_pow, Int.toNat_natCast]; exact decide_eq_true rfl⟩
theorem num_bs {N s : Nat} (h : s < 2 ^ N) : num (bs N s) = s := by
  apply Nat.eq_of_testBit_eq
  intro j
  rw [num_bit _ _ fun e he => (bs_mem.1 he).1, Bool.eq_iff_iff, decide_eq_true_eq, bs_mem, Int.toNat_natCast]
  constructor
  · exact fun h => h.2.2
  · intro hb
    refine ⟨by omega, ?_, hb⟩
    have : j < N := Classical.byContradiction fun hn => by
      rw [Nat.testBit_lt_two_pow (Nat.lt_of_lt_of_le h (Nat.pow_le_pow_right (by decide) (Nat.le_of_not_lt hn)))] at hb
      cases hb
    omega
theorem bs_nil {N s : Nat} (h : s < 2 ^ N) : bs N s = [] ↔ s = 0 := by
  constructor
  · intro e
    have := num_bs h
    rw [e] at this
    exact this.symm
  · rintro rfl
    unfold bs
    simp
theorem isCo_bs {N k s : Nat} (h0 : 0 < s) (h : s < 2 ^ N) : isCo N k (bs N s) ↔ (bs N s).length ≤ k :=
  ⟨fun q => q.2.1, fun q => ⟨fun e => by have := (bs_nil h).1 e; omega, q, bs_rise N s, fun e he => by have := bs_mem.1 he; omega⟩⟩
end Go.Proofs.YtbjfbbfglkmadaaDoor
