/-
  Possible sets by press.Overfull; sizes of masks.
-/
import Derived.Test.YtbblnbolabpfmaaO1
import Derived.Test.YtbblnbolabpfmaaQM46c
namespace Go.Proofs.Ytbblnbolabpfmaa
open Go.RowKit
set_option linter.unusedVariables false

theorem cnt_big {p : Nat → Bool} {n : Nat} (h : ∀ i, n ≤ i → p i = false) : ∀ m, n ≤ m → cnt p m = cnt p n := by
  intro m
  induction m with
  | zero => intro hm; rw [show n = 0 by omega]
  | succ m ih =>
    intro hm
    by_cases q : n = m + 1
    · rw [q]
    · rw [cnt, h m (by omega), ih (by omega)]; rfl
theorem lstM_len {k n : Nat} (hk : k < 2 ^ n) (hn : n ≤ 12) : (lstM k).length = cnt (tb k) n := by
  rw [lstM, lstF_cnt]
  have e2 : cnt (fun i => tb k (0 + i)) 12 = cnt (tb k) 12 := cnt_congr fun i _ => by rw [Nat.zero_add]
  rw [e2, cnt_big (fun i hi => tb_big hk hi) 12 hn]
theorem lstM_mem {k n : Nat} (hk : k < 2 ^ n) (hn : n ≤ 12) (i : Nat) : mem (lstM k) i = tb k i := by
  cases h : tb k i with
  | true =>
    have hi : i < n := Nat.lt_of_not_le fun q => by rw [tb_big hk q] at h; cases h
    exact List.contains_iff_mem.2 (lstF_mem.2 ⟨by omega, by omega, by rw [Int.toNat_natCast]; exact h⟩)
  | false =>
    cases h2 : mem (lstM k) i with
    | false => rfl
    | true =>
      have := (lstF_mem.1 (List.contains_iff_mem.1 h2)).2.2
      rw [Int.toNat_natCast, h] at this; cases this
theorem lstM_ix {k n : Nat} (hk : k < 2 ^ n) : Ix n (lstM k) := by
  refine ⟨fun i hi => ?_, (lstF_sorted _ _ _).imp fun h => by omega⟩
  obtain ⟨a, b, c⟩ := lstF_mem.1 hi
  have : i.toNat < n := Nat.lt_of_not_le fun q => by rw [tb_big hk q] at c; cases c
  omega
theorem scn_zero {n : Int} : ∀ {xs : List Int} {last : Int}, xs.Pairwise (· < ·) → (∀ i ∈ xs, 0 ≤ i ∧ i < n ∧ last < i) → scn n last xs = 0
  | [], _, _, _ => rfl
  | x :: r, last, hp, hr => by
    obtain ⟨p1, p2⟩ := List.pairwise_cons.1 hp
    have hx := hr x (by simp)
    rw [scn, decide_eq_true (show 0 ≤ x ∧ x ≤ n - 1 by omega), decide_eq_false (show ¬ x ≤ last by omega)]
    exact scn_zero p2 fun i hi => by have := hr i (List.mem_cons_of_mem _ hi); have := p1 i hi; omega

theorem ovf_mask {l : List Od} (hc : ckO l = 0) {k : Nat} (hk : k < 2 ^ l.length) : ovf l (lstM k) = fin16 (ofm l k) := by
  have h6 := okO_of hc
  have hix := lstM_ix hk
  have hz : scn l.length (-1) (lstM k) = 0 := scn_zero (lstF_sorted _ _ _) fun i hi => by have := hix.rng i hi; omega
  rw [ovf, if_pos hc, if_pos hz]
  have h1 := (fo_FO (fun o ho => (h6.all o ho).1.1) hix).congr fun i _ => lstM_mem hk h6.len i
  rw [h1.uniq (ofm_FO h6 k)]

def B46 (k : Int) (l : List Od) : Option Bool := if ckO l = 0 ∧ 0 ≤ k ∧ k.toNat < 2 ^ l.length then some (psm l k.toNat) else none
theorem KB46 : FnOk Try.prog 46 (F46c B46) := ok46c B16 B43 KB16 KB43 B46 fun k l r h => ⟨0, by
  simp only [B46] at h
  split at h
  · rename_i hh
    obtain ⟨hc, h0, hk⟩ := hh
    have h6 := okO_of hc
    have hlen := h6.len
    have hp := pow_12 hlen
    have h1 : B43 k = some (lstM k.toNat) := if_pos ⟨h0, by omega⟩
    have h2 := lstF_len (tb k.toNat) 12 0
    have h3 : B16 l (lstM k.toNat) = some (fin16 (ofm l k.toNat)) := by
      rw [B16, if_pos ⟨by omega, by unfold lstM; omega⟩, ovf_mask hc hk]
    rw [← h, m46c, h1, Option.bind_some, h3, Option.bind_some, fin16, psm]
    by_cases q : ofm l k.toNat = 0
    · rw [beq_T q, decide_eq_true q]; rfl
    · rw [beq_F q, decide_eq_false q]; rfl
  · cases h⟩

end Go.Proofs.Ytbblnbolabpfmaa
