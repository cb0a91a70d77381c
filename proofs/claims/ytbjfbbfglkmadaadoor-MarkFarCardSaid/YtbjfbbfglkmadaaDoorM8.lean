/-
 Doubts: what the program finds.
-/
import Derived.Test.YtbjfbbfglkmadaaDoorM6
namespace Go.Proofs.YtbjfbbfglkmadaaDoor
open Go.RowKit
set_option linter.unusedVariables false

def B95c (i : Int) (p : List Int) : Option (Bool × List Int) := if p.length ≤ 1000 then some (!decide (i ∈ p), p) else none
theorem KB95c : FnOk Tryd.prog 95 (F95c B95c) := ok95c B75 KB75 B95c fun i p r h => ⟨0, by
 simp only [B95c] at h
 split at h
 ·rename_i hl
  rw [← h, m95c, B75, if_pos hl]; rfl
 ·cases h⟩
def B96c95 (s p : List Int) : Option (Int × List Int × List Int) := if s.length ≤ 1000 ∧ p.length ≤ 1000 then some (fx (fun i => !decide (i ∈ p)) 0 s, s, p) else none
theorem KB96c95 : FnOk Tryd.prog 96 (F96c95 B96c95) := ok96c95 B95c KB95c B96c95 fun s p r h => ⟨1001, by
 simp only [B96c95] at h
 split at h
 ·rename_i hl
  rw [← h, m96c95]
  exact rangeIx s 0 (fun n (_ : Unit) t => l96c95a B95c 1001 s n t p) (fun _ _ _ => True) (fun t xs _ => some (fx (fun i => !decide (i ∈ p)) t xs, s, p))
   (fun n _ t x rest ht hx _ ih => by
    simp only [l96c95a, ixA ht, ixB ht, cond_true, chk_true, Int.toNat_natCast, ixW ht (by omega), hx, B95c, if_pos hl.2, Option.bind_some, ih () trivial, fx]
    cases decide (x ∈ p) <;> rfl)
   (fun n _ _ => by simp only [l96c95a, ixE, cond_false]; rfl) 1001 () (by omega) trivial
 ·cases h⟩
theorem fx_cases {α : Type} (p : α → Bool) (d : α) : ∀ (xs : List α) (t : Int), 0 ≤ t → (fx p t xs = -1 ∧ ∀ x ∈ xs, p x = false) ∨ ∃ i : Nat, i < xs.length ∧ fx p t xs = t + i ∧ p (xs.getD i d) = true ∧ ∀ x ∈ xs.take i, p x = false
 | [], t, _ => .inl ⟨rfl, fun x hx => by cases hx⟩
 | x :: r, t, ht => by
  rw [fx]
  cases e : p x with
  | true => exact .inr ⟨0, by simp, by simp, e, fun y hy => by cases hy⟩
  | false =>
   rw [cond_false]
   rcases fx_cases p d r (t + 1) (by omega) with ⟨h1, h2⟩ | ⟨i, h1, h2, h3, h4⟩
   ·refine .inl ⟨h1, fun y hy => ?_⟩
    rcases List.mem_cons.1 hy with rfl | hy
    ·exact e
    ·exact h2 y hy
   ·refine .inr ⟨i + 1, by simp; omega, by rw [h2]; omega, h3, fun y hy => ?_⟩
    rw [List.take_succ_cons] at hy
    rcases List.mem_cons.1 hy with rfl | hy
    ·exact e
    ·exact h4 y hy
abbrev fil (p s : List Int) : List Int := s.filter fun i => decide (i ∈ p)
theorem fil_app (p a b : List Int) : fil p (a ++ b) = fil p a ++ fil p b := List.filter_append _ _
theorem fil_one (p : List Int) (x : Int) : fil p [x] = cond (decide (x ∈ p)) [x] [] := by
 rw [fil, List.filter_cons]
 cases decide (x ∈ p) <;> rfl
def B94c95 (s p : List Int) : Option (List Int × List Int) := if s.length ≤ 1000 ∧ p.length ≤ 1000 then some (fil p s, p) else none
theorem set_take {α : Type} {o : List α} {i : Nat} {x d : α} (h : i < o.length) : (o.set i x).take (i + 1) = o.take i ++ [x] := by
 rw [take_succ' (t := i) (d := d) (x := x) (by rw [List.length_set]; exact h) (by simp [h]), List.take_set, List.set_eq_of_length_le (by rw [List.length_take]; omega)]
theorem KB94c95 : FnOk Tryd.prog 94 (F94c95 B94c95) := ok94c95 B95c B96c95 KB95c KB96c95 B94c95 fun s p r h => ⟨1001, by
 simp only [B94c95] at h
 split at h
 ·rename_i hl
  rw [← h, m94c95, B96c95, if_pos hl, Option.bind_some, beqDec]
  rcases fx_cases (fun i => !decide (i ∈ p)) 0 s 0 (by omega) with ⟨h1, h2⟩ | ⟨k, h1, h2, h3, h4⟩
  ·simp only [h1, decide_true, cond_true]
   rw [show fil p s = s from List.filter_eq_self.2 fun x hx => by have := h2 x hx; simpa using this]
  ·simp only [h2]
   rw [decide_eq_false (by omega), cond_false]
   have key : ∀ (m j n i : Nat) (o : List Int), j + m = s.length → m < n → i < j → o.length = s.length → o.drop j = s.drop j → o.take i = fil p (s.take j) → l94c95a B95c B96c95 1001 n (i : Int) (j : Int) o p = some (fil p s, p) := by
    intro m
    induction m with
    | zero =>
     intro j n i o e1 e2 e3 e4 e5 e6
     obtain ⟨n, rfl⟩ : ∃ q, n = q + 1 := ⟨n - 1, by omega⟩
     have hj : j = o.length := by omega
     subst hj
     simp only [l94c95a, ixE, cond_false, Int.toNat_natCast]
     rw [chk_dec (by omega), chk_dec (by omega), chk_dec (by simp [clr]; omega)]
     rw [clr, List.append_assoc, List.take_append_of_le_length (by simp; omega), List.take_take, Nat.min_self, e6, e4, List.take_length]
    | succ m ih =>
     intro j n i o e1 e2 e3 e4 e5 e6
     obtain ⟨n, rfl⟩ : ∃ q, n = q + 1 := ⟨n - 1, by omega⟩
     have hj : j < o.length := by omega
     have hjs : j < s.length := by omega
     have d1 := drop_cons' (d := 0) hj
     have d2 := drop_cons' (d := 0) hjs
     rw [e5, d2] at d1
     obtain ⟨d3, d4⟩ := List.cons.inj d1
     have tk := take_succ' (d := 0) hjs rfl
     simp only [l94c95a, ixA hj, ixB hj, cond_true, chk_true, Int.toNat_natCast, ixW hj (by omega), B95c, if_pos hl.2, Option.bind_some, Bool.not_not]
     cases e : decide (o.getD j 0 ∈ p) with
     | true =>
      rw [cond_true, chk_dec (by omega), ixW (show i < o.length by omega) (by omega)]
      refine ih (j + 1) n (i + 1) _ (by omega) (by omega) (by omega) (by rw [List.length_set]; exact e4) ?_ ?_
      ·rw [List.drop_set_of_lt (by omega), d4]
      ·rw [set_take (d := 0) (by omega), e6, tk, fil_app, fil_one, d3, e]; rfl
     | false =>
      rw [cond_false]
      refine ih (j + 1) n i o (by omega) (by omega) (by omega) e4 d4.symm ?_
      rw [e6, tk, fil_app, fil_one, d3, e, cond_false, List.append_nil]
   have hk2 : w64 (0 + (k : Int) + 1) = ((k + 1 : Nat) : Int) := by rw [w64_small (by omega)]; omega
   rw [hk2, show (0 : Int) + (k : Int) = (k : Int) by omega]
   refine key (s.length - (k + 1)) (k + 1) 1001 k s (by omega) (by omega) (by omega) rfl rfl ?_
   have h3' : decide (s.getD k 0 ∈ p) = false := by simpa using h3
   rw [take_succ' (d := 0) h1 rfl, fil_app, fil_one, h3', cond_false, List.append_nil]
   exact (List.filter_eq_self.2 fun x hx => by have := h4 x hx; simpa using this).symm
 ·cases h⟩
def B97c (m p : Int) : Option (Bool × Int) := if (0 ≤ m ∧ m ≤ 8) ∧ 0 ≤ p ∧ p < 256 then some (p.toNat.testBit m.toNat, p) else none
theorem KB97c : FnOk Tryd.prog 97 (F97c B97c) := ok97c B97c fun m p r h => ⟨0, by
 simp only [B97c] at h
 split at h
 ·rename_i hl
  obtain ⟨⟨h1, h2⟩, h3, h4⟩ := hl
  obtain ⟨a, rfl⟩ : ∃ j : Nat, m = j := ⟨m.toNat, by omega⟩
  obtain ⟨b, rfl⟩ : ∃ j : Nat, p = j := ⟨p.toNat, by omega⟩
  rw [← h, m97c, chk_dec h1, bit_u8 (by omega) (by omega)]; rfl
 ·cases h⟩
def B96c97 (s : List Int) (p : Int) : Option (Int × List Int × Int) := if s.length ≤ 1000 ∧ (∀ m ∈ s, 0 ≤ m ∧ m ≤ 8) ∧ 0 ≤ p ∧ p < 256 then some (fx (fun m => p.toNat.testBit m.toNat) 0 s, s, p) else none
theorem KB96c97 : FnOk Tryd.prog 96 (F96c97 B96c97) := ok96c97 B97c KB97c B96c97 fun s p r h => ⟨1001, by
 simp only [B96c97] at h
 split at h
 ·rename_i hl
  obtain ⟨h1, h2, h3⟩ := hl
  rw [← h, m96c97]
  exact rangeIx s 0 (fun n (_ : Unit) t => l96c97a B97c 1001 s n t p) (fun _ rest _ => ∀ m ∈ rest, 0 ≤ m ∧ m ≤ 8) (fun t xs _ => some (fx (fun m => p.toNat.testBit m.toNat) t xs, s, p))
   (fun n _ t x rest ht hx hI ih => by
    simp only [l96c97a, ixA ht, ixB ht, cond_true, chk_true, Int.toNat_natCast, ixW ht (by omega), hx, B97c, if_pos (show (0 ≤ x ∧ x ≤ 8) ∧ 0 ≤ p ∧ p < 256 from ⟨hI x (by simp), h3⟩), Option.bind_some, ih () (fun m hm => hI m (by simp [hm])), fx]
    cases p.toNat.testBit x.toNat <;> rfl)
   (fun n _ _ => by simp only [l96c97a, ixE, cond_false]; rfl) 1001 () (by omega) h2
 ·cases h⟩
end Go.Proofs.YtbjfbbfglkmadaaDoor
