/-
 All coalitions, in their order.
-/
import Derived.Test.YtbjfbbfglkmadaaDoorMP
namespace Go.Proofs.YtbjfbbfglkmadaaDoor
open Go.RowKit
set_option linter.unusedVariables false

def gs (N : Nat) : Nat → Nat → List (List Int)
 | 0, _ => []
 | k + 1, i => (List.range' i (N - i)).flatMap fun (j : Nat) => [(j : Int)] :: (gs N k (j + 1)).map fun x => (j : Int) :: x
theorem gr_gs (N : Nat) : ∀ (k : Nat) (L : List Int) (i : Nat), gr N k L i = (gs N k i).map fun x => L ++ x
 | 0, L, i => rfl
 | k + 1, L, i => by
  rw [gr, gs, List.map_flatMap]
  congr 1
  funext j
  rw [gr_gs N k (L ++ [(j : Int)]) (j + 1), List.map_cons, List.map_map]
  congr 1
  exact List.map_congr_left fun x _ => by simp
def co (N k : Nat) : List (List Int) := gs N k 0
theorem gr_co (N k : Nat) : gr N k [] 0 = co N k := by rw [gr_gs]; simp [co]
def isCo (N k : Nat) (x : List Int) : Prop := x ≠ [] ∧ x.length ≤ k ∧ x.Pairwise (· < ·) ∧ ∀ e ∈ x, 0 ≤ e ∧ e < N
theorem gs_mem (N : Nat) : ∀ (k i : Nat) (x : List Int), x ∈ gs N k i ↔ x ≠ [] ∧ x.length ≤ k ∧ x.Pairwise (· < ·) ∧ ∀ e ∈ x, (i : Int) ≤ e ∧ e < N
 | 0, i, x => by
  simp only [gs, List.not_mem_nil, false_iff]
  rintro ⟨h1, h2, _⟩
  exact h1 (List.eq_nil_of_length_eq_zero (by omega))
 | k + 1, i, x => by
  simp only [gs, List.mem_flatMap, List.mem_range'_1, List.mem_cons, List.mem_map]
  constructor
  ·rintro ⟨j, hj, h⟩
   rcases h with rfl | ⟨y, hy, rfl⟩
   ·refine ⟨by simp, by simp, List.pairwise_singleton _ _, fun e he => ?_⟩
    rw [List.mem_singleton.1 he]; omega
   ·obtain ⟨a1, a2, a3, a4⟩ := (gs_mem N k (j + 1) y).1 hy
    refine ⟨by simp, by simp; omega, List.pairwise_cons.2 ⟨fun e he => by have := a4 e he; omega, a3⟩, fun e he => ?_⟩
    rcases List.mem_cons.1 he with rfl | he
    ·omega
    ·have := a4 e he; omega
  ·rintro ⟨h1, h2, h3, h4⟩
   match x, h1, h2, h3, h4 with
   | e :: y, _, h2, h3, h4 =>
    have he := h4 e (by simp)
    obtain ⟨h5, h6⟩ := List.pairwise_cons.1 h3
    refine ⟨e.toNat, by omega, ?_⟩
    have ee : ((e.toNat : Nat) : Int) = e := by omega
    rw [ee]
    cases y with
    | nil => exact .inl rfl
    | cons f z => exact .inr ⟨f :: z, (gs_mem N k (e.toNat + 1) (f :: z)).2 ⟨by simp, by simp at h2 ⊢; omega, h6, fun g hg => by have := h5 g hg; have := h4 g (by simp [hg]); omega⟩, rfl⟩
theorem co_mem {N k : Nat} {x : List Int} : x ∈ co N k ↔ isCo N k x := by
 rw [co, gs_mem]; exact Iff.rfl
theorem rise_len : ∀ {x : List Int} {lo : Nat} {N : Nat}, x.Pairwise (· < ·) → (∀ e ∈ x, (lo : Int) ≤ e ∧ e < N) → x.length ≤ N - lo
 | [], _, _, _, _ => Nat.zero_le _
 | e :: y, lo, N, h, hm => by
  obtain ⟨h1, h2⟩ := List.pairwise_cons.1 h
  have he := hm e (by simp)
  have := rise_len (x := y) (lo := e.toNat + 1) (N := N) h2 fun g hg => by have := h1 g hg; have := hm g (by simp [hg]); omega
  simp only [List.length_cons]; omega
theorem isCo_len {N k : Nat} {x : List Int} (h : isCo N k x) : x.length ≤ N := by
 have := rise_len (lo := 0) h.2.2.1 fun e he => by have := h.2.2.2 e he; omega
 omega
def bs (N set : Nat) : List Int := ((List.range N).filter fun i => set.testBit i).map fun i => ((i : Nat) : Int)
theorem bs_mem {N set : Nat} {e : Int} : e ∈ bs N set ↔ 0 ≤ e ∧ e < N ∧ set.testBit e.toNat = true := by
 simp only [bs, List.mem_map, List.mem_filter, List.mem_range]
 constructor
 ·rintro ⟨i, ⟨h1, h2⟩, rfl⟩
  exact ⟨by omega, by omega, by rw [Int.toNat_natCast]; exact h2⟩
 ·rintro ⟨h1, h2, h3⟩
  exact ⟨e.toNat, ⟨by omega, h3⟩, by omega⟩
theorem bs_rise (N set : Nat) : (bs N set).Pairwise (· < ·) := by
 unfold bs
 rw [List.pairwise_map]
 exact (List.pairwise_lt_range.filter _).imp fun h => by omega
theorem rise_ext {x y : List Int} (hx : x.Pairwise (· < ·)) (hy : y.Pairwise (· < ·)) (hm : ∀ e, e ∈ x ↔ e ∈ y) : x = y :=
 List.Perm.eq_of_pairwise (le := fun a b => a < b) (fun a b _ _ h1 h2 => by omega) hx hy ((List.perm_ext_iff_of_nodup (hx.imp fun h e => by omega) (hy.imp fun h e => by omega)).2 hm)
def num (x : List Int) : Nat := x.foldl (fun a i => a ||| 2 ^ i.toNat) 0
theorem num_bit (x : List Int) (j : Nat) (h : ∀ e ∈ x, 0 ≤ e) : (num x).testBit j = decide ((j : Int) ∈ x) := by
 unfold num
 rw [orF_bit, Nat.zero_testBit, Bool.false_or, Bool.eq_iff_iff, List.any_eq_true, dtq]
 constructor
 ·rintro ⟨e, he, hb⟩
  rw [bit_pow, dtq] at hb
  have := h e he
  rwa [show (j : Int) = e by omega]
 ·intro hj
  exact ⟨j, hj, by rw [bit_pow, Int.toNat_natCast]; exact decide_eq_true rfl⟩
theorem num_lt {N : Nat} : ∀ {x : List Int} {a : Nat}, a < 2 ^ N → (∀ e ∈ x, 0 ≤ e ∧ e < N) → x.foldl (fun a i => a ||| 2 ^ i.toNat) a < 2 ^ N
 | [], a, h, _ => h
 | e :: y, a, h, hm => by
  rw [List.foldl_cons]
  have he := hm e (by simp)
  exact num_lt (Nat.or_lt_two_pow h (Nat.pow_lt_pow_right (by decide) (by omega))) fun f hf => hm f (by simp [hf])
theorem bs_num {N : Nat} {x : List Int} (h : x.Pairwise (· < ·)) (hm : ∀ e ∈ x, 0 ≤ e ∧ e < N) : bs N (num x) = x := by
 refine rise_ext (bs_rise _ _) h fun e => ?_
 rw [bs_mem]
 constructor
 ·rintro ⟨h1, h2, h3⟩
  rw [num_bit x _ fun f hf => (hm f hf).1, dtq] at h3
  rwa [show ((e.toNat : Nat) : Int) = e by omega] at h3
 ·intro he
  have := hm e he
  refine ⟨by omega, by omega, ?_⟩
  rw [num_bit x _ fun f hf => (hm f hf).1, dtq, show ((e.toNat : Nat) : Int) = e by omega]
  exact he
theorem num_bs {N s : Nat} (h : s < 2 ^ N) : num (bs N s) = s := by
 apply Nat.eq_of_testBit_eq
 intro j
 rw [num_bit _ _ fun e he => (bs_mem.1 he).1, Bool.eq_iff_iff, dtq, bs_mem, Int.toNat_natCast]
 constructor
 ·exact fun h => h.2.2
 ·intro hb
  refine ⟨by omega, ?_, hb⟩
  have : j < N := Classical.byContradiction fun hn => by
   rw [Nat.testBit_lt_two_pow (Nat.lt_of_lt_of_le h (Nat.pow_le_pow_right (by decide) (Nat.le_of_not_lt hn)))] at hb
   cases hb
  omega
theorem bs_nil {N s : Nat} (h : s < 2 ^ N) : bs N s = [] ↔ s = 0 := by
 constructor
 ·intro e
  have := num_bs h
  rw [e] at this
  exact this.symm
 ·rintro rfl
  unfold bs
  simp
theorem isCo_bs {N k s : Nat} (h0 : 0 < s) (h : s < 2 ^ N) : isCo N k (bs N s) ↔ (bs N s).length ≤ k :=
 ⟨fun q => q.2.1, fun q => ⟨fun e => by have := (bs_nil h).1 e; omega, q, bs_rise N s, fun e he => by have := bs_mem.1 he; omega⟩⟩
theorem co_bs {N k : Nat} {x : List Int} (h : isCo N k x) : ∃ s, 0 < s ∧ s < 2 ^ N ∧ bs N s = x ∧ x.length ≤ k := by
 have h1 : bs N (num x) = x := bs_num h.2.2.1 fun e he => h.2.2.2 e he
 have h2 : num x < 2 ^ N := num_lt (Nat.two_pow_pos N) fun e he => h.2.2.2 e he
 refine ⟨num x, Nat.pos_of_ne_zero fun e => ?_, h2, h1, h.2.1⟩
 rw [e] at h1
 exact h.1 (by rw [← h1]; exact (bs_nil (Nat.two_pow_pos N)).2 rfl)
end Go.Proofs.YtbjfbbfglkmadaaDoor
