/-
  Which one of its kind a letter is, and where it is in a log: the functions of the law.
-/
import Derived.Test.YtmpbbkldopfkpaaDoorL14
import Derived.Test.YtmpbbkldopfkpaaDoorQM31c
import Derived.Test.YtmpbbkldopfkpaaDoorQM33
namespace Go.Proofs.YtmpbbkldopfkpaaDoor
open Go.RowKit
set_option linter.unusedVariables false

def B31 : Int → Wd → Option Int := fun i s => if 0 ≤ i ∧ i < s.length ∧ s.length ≤ 14 ∧ asc s = true then some (((s.take i.toNat).count (s.getD i.toNat 0) : Nat) : Int) else none
theorem kb31 : FnOk Tryd.prog 31 (F31c B31) := ok31c B32 kb32 B31 fun i s r h => ⟨0, by
  unfold B31 at h
  split at h
  · rename_i hq
    obtain ⟨h0, h1, h2, h3⟩ := hq
    obtain rfl := Option.some.inj h
    obtain ⟨i, rfl⟩ : ∃ z : Nat, i = (z : Int) := ⟨i.toNat, by omega⟩
    have ha : asc (s.take i) = true := by
      unfold asc at h3 ⊢
      rw [List.all_eq_true] at h3 ⊢
      exact fun b hb => h3 b (List.mem_of_mem_take hb)
    unfold m31c
    rw [Int.toNat_natCast, chk_dec (by omega), chk_dec (by omega), chk_dec (by omega)]
    unfold B32
    rw [if_pos ⟨ha, by rw [List.length_take]; omega⟩, Option.bind_some]
    congr 2
    rw [List.count_eq_length_filter]
    congr 1
    refine List.filter_congr fun b _ => ?_
    rw [Bool.or_self, Bool.eq_iff_iff, decide_eq_true_iff, beq_iff_eq, ← UInt8.toNat_inj]
    omega
  · cases h⟩
def B33 : Wd → Int → Int → Option Int := fun t c n => if asc t = true ∧ t.length ≤ 1000 ∧ (0 ≤ c ∧ c < 256) ∧ 0 ≤ n ∧ n ≤ 1000 then some (match atN (UInt8.ofNat c.toNat) n.toNat 0 t with
  | some q => (q : Int)
  | none => -1) else none
theorem kb33 : FnOk Tryd.prog 33 (F33 B33) := ok33 B33 fun t c n r h => ⟨1001, by
  unfold B33 at h
  split at h
  · rename_i hq
    obtain ⟨h0, h1, ⟨hc0, hc1⟩, hn0, hn1⟩ := hq
    obtain rfl := Option.some.inj h
    obtain ⟨n, rfl⟩ : ∃ z : Nat, n = (z : Int) := ⟨n.toNat, by omega⟩
    obtain ⟨x, rfl⟩ : ∃ x : UInt8, c = (x.toNat : Int) := ⟨UInt8.ofNat c.toNat, by rw [UInt8.toNat_ofNat', Nat.mod_eq_of_lt (by omega)]; omega⟩
    rw [ofNat_toNat, Int.toNat_natCast]
    unfold m33
    rw [h0, chk_true]
    have main : ∀ (rest : Wd) (f i n : Nat), rest.length < f → t.drop i = rest → i ≤ t.length → n ≤ 1000 → l33a 1001 t (x.toNat : Int) f (n : Int) (sitL i rest) = some (match atN x n i rest with
        | some q => (q : Int)
        | none => -1) := by
      intro rest
      induction rest with
      | nil =>
        intro f i n hf _ _ _
        obtain ⟨f, rfl⟩ : ∃ k, f = k + 1 := ⟨f - 1, by omega⟩
        rw [l33a]; rfl
      | cons b rest ih =>
        intro f i n hf hd hi hn
        obtain ⟨f, rfl⟩ : ∃ k, f = k + 1 := ⟨f - 1, by omega⟩
        obtain ⟨g1, g2, g3⟩ := getD_drop (d := (0 : UInt8)) hd
        simp only [List.length_cons] at hf
        rw [l33a]
        show chk (decide (0 ≤ (i : Int) ∧ (i : Int) < (t.length : Int))) _ = _
        rw [chk_dec (by omega)]
        simp only [Int.toNat_natCast, g2, atN]
        by_cases hb : b = x
        · rw [if_pos hb, hb, beq_self_eq_true, cond_true]
          by_cases hn0 : n = 0
          · rw [if_pos hn0, beq_iff_eq.2 (by omega), cond_true]
          · rw [if_neg hn0, beq_eq_false_iff_ne.2 (by omega), cond_false, w64_eq (by omega) (by omega), show ((n : Int) - 1) = ((n - 1 : Nat) : Int) by omega]
            exact ih f (i + 1) (n - 1) (by omega) g3 (by omega) (by omega)
        · rw [if_neg hb, beq_eq_false_iff_ne.2 (fun e => hb (UInt8.toNat_inj.1 (by omega))), cond_false]
          exact ih f (i + 1) n (by omega) g3 (by omega) hn
    exact main t 1001 0 n (by omega) rfl (by omega) (by omega)
  · cases h⟩
end Go.Proofs.YtmpbbkldopfkpaaDoor
