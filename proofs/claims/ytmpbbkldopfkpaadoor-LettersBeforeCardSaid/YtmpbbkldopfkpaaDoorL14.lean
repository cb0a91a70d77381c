/-
  Which letters always come before others: by all logs that mean the same.
-/
import Derived.Test.YtmpbbkldopfkpaaDoorL13
import Derived.Test.YtmpbbkldopfkpaaDoorL9
namespace Go.Proofs.YtmpbbkldopfkpaaDoor
open Go.RowKit
set_option linter.unusedVariables false

theorem part_eqv {D : UInt8 → UInt8 → Bool} (hB : Bnd D) : ∀ l : List (UInt8 × Bool), (l.Pairwise fun p q => p.2 = true → D p.1 q.1 = true → q.2 = true) → Eqv D (l.map (·.1)) (((l.filter fun p => !p.2).map (·.1)) ++ ((l.filter fun p => p.2).map (·.1)))
  | [], _ => Eqv.refl _
  | (x, false) :: r, h => by
    have ih := part_eqv hB r (List.pairwise_cons.1 h).2
    simpa using ih.cons x
  | (x, true) :: r, h => by
    obtain ⟨h1, h2⟩ := List.pairwise_cons.1 h
    have ih := part_eqv hB r h2
    have hA : ∀ z ∈ (r.filter fun p => !p.2).map (·.1), z ≠ x ∧ D z x = false := fun z hz => by
      obtain ⟨q, hq, rfl⟩ := List.mem_map.1 hz
      obtain ⟨hq1, hq2⟩ := List.mem_filter.1 hq
      have hf : D x q.1 = false := by
        cases hD : D x q.1 with
        | false => rfl
        | true =>
          have := h1 q hq1 rfl hD
          rw [this] at hq2; cases hq2
      exact ⟨fun e => by (rw [e, hB.refl] at hf; cases hf), by rw [hB.symm]; exact hf⟩
    have := (ih.cons x).trans (tk_eqv hB (tk_of _ ((r.filter fun p => p.2).map (·.1)) hA))
    simpa using this
def atN (x : UInt8) : Nat → Nat → Wd → Option Nat
  | _, _, [] => none
  | n, i, b :: r => if b = x then (if n = 0 then some i else atN x (n - 1) (i + 1) r) else atN x n (i + 1) r
theorem atN_shift (x : UInt8) : ∀ (l : Wd) (n i : Nat), atN x n i l = (atN x n 0 l).map (· + i)
  | [], n, i => rfl
  | b :: r, n, i => by
    simp only [atN]
    split
    · split
      · simp
      · rw [atN_shift x r (n - 1) (i + 1), atN_shift x r (n - 1) (0 + 1), Option.map_map]
        congr 1; funext k; simp only [Function.comp]; omega
    · rw [atN_shift x r n (i + 1), atN_shift x r n (0 + 1), Option.map_map]
      congr 1; funext k; simp only [Function.comp]; omega
theorem atN_some {x : UInt8} : ∀ {l : Wd} {n : Nat}, n < l.count x → ∃ k, atN x n 0 l = some k
  | b :: r, n, h => by
    simp only [atN]
    by_cases hb : b = x
    · rw [if_pos hb]
      by_cases hn : n = 0
      · rw [if_pos hn]; exact ⟨0, rfl⟩
      · rw [if_neg hn, atN_shift]
        rw [hb, List.count_cons_self] at h
        obtain ⟨k, hk⟩ := atN_some (l := r) (n := n - 1) (x := x) (by omega)
        exact ⟨k + (0 + 1), by rw [hk]; rfl⟩
    · rw [if_neg hb, atN_shift]
      rw [List.count_cons_of_ne hb] at h
      obtain ⟨k, hk⟩ := atN_some h
      exact ⟨k + (0 + 1), by rw [hk]; rfl⟩
def bef (x : UInt8) (n : Nat) (y : UInt8) (m : Nat) : Wd → Bool
  | [] => false
  | b :: r => if b = x then (if n = 0 then !(decide (b = y) && decide (m = 0)) else if b = y then (if m = 0 then false else bef x (n - 1) y (m - 1) r) else bef x (n - 1) y m r)
    else if b = y then (if m = 0 then false else bef x n y (m - 1) r) else bef x n y m r
theorem bef_filter {x y : UInt8} (p : UInt8 → Bool) (hx : p x = true) (hy : p y = true) : ∀ (l : Wd) (n m : Nat), bef x n y m (l.filter p) = bef x n y m l
  | [], n, m => rfl
  | b :: r, n, m => by
    have ih := bef_filter p hx hy r
    rw [List.filter_cons]
    by_cases hb : p b = true
    · rw [if_pos hb]
      simp only [bef, ih]
    · rw [if_neg hb, ih]
      have h1 : b ≠ x := fun e => hb (e ▸ hx)
      have h2 : b ≠ y := fun e => hb (e ▸ hy)
      simp only [bef, if_neg h1, if_neg h2]
theorem bef_at {x y : UInt8} : ∀ (l : Wd) (n m i j : Nat), atN x n 0 l = some i → atN y m 0 l = some j → bef x n y m l = decide (i < j)
  | [], n, m, i, j, h, _ => by cases h
  | b :: r, n, m, i, j, hi, hj => by
    simp only [atN] at hi hj
    simp only [bef]
    by_cases hbx : b = x
    · rw [if_pos hbx] at hi ⊢
      by_cases hn : n = 0
      · rw [if_pos hn] at hi ⊢
        obtain rfl := Option.some.inj hi
        by_cases hby : b = y
        · rw [if_pos hby] at hj
          by_cases hm : m = 0
          · rw [if_pos hm] at hj
            obtain rfl := Option.some.inj hj
            simp [hby, hm]
          · rw [if_neg hm, atN_shift] at hj
            obtain ⟨k, _, rfl⟩ := Option.map_eq_some_iff.1 hj
            simp [hm]
        · rw [if_neg hby, atN_shift] at hj
          obtain ⟨k, _, rfl⟩ := Option.map_eq_some_iff.1 hj
          simp [hby]
      · rw [if_neg hn, atN_shift] at hi
        rw [if_neg hn]
        obtain ⟨k, hk, rfl⟩ := Option.map_eq_some_iff.1 hi
        by_cases hby : b = y
        · rw [if_pos hby] at hj ⊢
          by_cases hm : m = 0
          · rw [if_pos hm] at hj ⊢
            obtain rfl := Option.some.inj hj
            simp
          · rw [if_neg hm, atN_shift] at hj
            rw [if_neg hm]
            obtain ⟨q, hq, rfl⟩ := Option.map_eq_some_iff.1 hj
            rw [bef_at r _ _ _ _ hk hq]
            exact decide_eq_decide.2 (by omega)
        · rw [if_neg hby, atN_shift] at hj
          rw [if_neg hby]
          obtain ⟨q, hq, rfl⟩ := Option.map_eq_some_iff.1 hj
          rw [bef_at r _ _ _ _ hk hq]
          exact decide_eq_decide.2 (by omega)
    · rw [if_neg hbx, atN_shift] at hi
      rw [if_neg hbx]
      obtain ⟨k, hk, rfl⟩ := Option.map_eq_some_iff.1 hi
      by_cases hby : b = y
      · rw [if_pos hby] at hj ⊢
        by_cases hm : m = 0
        · rw [if_pos hm] at hj ⊢
          obtain rfl := Option.some.inj hj
          simp
        · rw [if_neg hm, atN_shift] at hj
          rw [if_neg hm]
          obtain ⟨q, hq, rfl⟩ := Option.map_eq_some_iff.1 hj
          rw [bef_at r _ _ _ _ hk hq]
          exact decide_eq_decide.2 (by omega)
      · rw [if_neg hby, atN_shift] at hj
        rw [if_neg hby]
        obtain ⟨q, hq, rfl⟩ := Option.map_eq_some_iff.1 hj
        rw [bef_at r _ _ _ _ hk hq]
        exact decide_eq_decide.2 (by omega)
theorem at_eqv {D : UInt8 → UInt8 → Bool} {s t : Wd} (h : Eqv D t s) {x y : UInt8} (hD : D x y = true) {n m i j i' j' : Nat} (h1 : atN x n 0 s = some i) (h2 : atN y m 0 s = some j) (h3 : atN x n 0 t = some i') (h4 : atN y m 0 t = some j') : i < j ↔ i' < j' := by
  have e1 := bef_at s n m i j h1 h2
  have e2 := bef_at t n m i' j' h3 h4
  have e3 := h x y hD
  have f1 := bef_filter (x := x) (y := y) (fun z => z == x || z == y) (by simp) (by simp) s n m
  have f2 := bef_filter (x := x) (y := y) (fun z => z == x || z == y) (by simp) (by simp) t n m
  unfold prj at e3
  rw [e3, f1, e1, e2] at f2
  exact decide_eq_decide.1 f2
theorem atN_pos : ∀ (l : Wd) (p : Nat), p < l.length → atN (l.getD p 0) ((l.take p).count (l.getD p 0)) 0 l = some p
  | b :: r, 0, _ => by simp [atN]
  | b :: r, p + 1, h => by
    have ih := atN_pos r p (by simpa using h)
    rw [List.getD_cons_succ, List.take_succ_cons]
    simp only [atN]
    by_cases hb : b = r.getD p 0
    · rw [if_pos hb, ← hb, List.count_cons_self, if_neg (by omega), Nat.add_sub_cancel, atN_shift]
      rw [← hb] at ih
      rw [ih]; rfl
    · rw [if_neg hb, List.count_cons_of_ne hb, atN_shift, ih]; rfl
theorem take_count {l : Wd} {p : Nat} (h : p < l.length) : (l.take p).count (l.getD p 0) < l.count (l.getD p 0) := by
  have h2 : l.drop p = l.getD p 0 :: l.drop (p + 1) := by
    rw [List.drop_eq_getElem_cons h, List.getD_eq_getElem?_getD, List.getElem?_eq_getElem h]; rfl
  have h3 : l.count (l.getD p 0) = (l.take p).count (l.getD p 0) + (l.drop p).count (l.getD p 0) := by
    rw [← List.count_append, List.take_append_drop]
  rw [h3, h2, List.count_cons_self]; omega
def plc (s t : Wd) (p : Nat) : Option Nat := atN (s.getD p 0) ((s.take p).count (s.getD p 0)) 0 t
theorem plc_self {s : Wd} {p : Nat} (h : p < s.length) : plc s s p = some p := atN_pos s p h
theorem plc_some {D : UInt8 → UInt8 → Bool} (hB : Bnd D) {s t : Wd} (h : Eqv D t s) {p : Nat} (hp : p < s.length) : ∃ q, plc s t p = some q :=
  atN_some (by rw [h.len hB]; exact take_count hp)
theorem plc_lt {D : UInt8 → UInt8 → Bool} {s t : Wd} (h : Eqv D t s) {p q : Nat} (hp : p < s.length) (hq : q < s.length) (hpq : p < q) (hD : D (s.getD p 0) (s.getD q 0) = true) {p' q' : Nat} (h1 : plc s t p = some p') (h2 : plc s t q = some q') : p' < q' :=
  (at_eqv h hD (plc_self hp) (plc_self hq) h1 h2).1 hpq
theorem lat_after {D : UInt8 → UInt8 → Bool} (hB : Bnd D) {s t : Wd} (h : Eqv D t s) {i : Nat} : ∀ (m : Nat), i + m < s.length → ∀ y ∈ lat D s i m, ∀ i' y', plc s t i = some i' → plc s t y = some y' → i' ≤ y'
  | 0, _, y, hy, i', y', h1, h2 => by
    rw [List.mem_singleton.1 hy, h1] at h2
    rw [Option.some.inj h2]; exact Nat.le_refl _
  | m + 1, hm, y, hy, i', y', h1, h2 => by
    rcases List.mem_append.1 hy with hy | hy
    · exact lat_after hB h m (by omega) y hy i' y' h1 h2
    · split at hy
      · rename_i hh
        rw [List.mem_singleton.1 hy] at h2
        obtain ⟨z, hz, hD⟩ := List.any_eq_true.1 hh
        have hzl := lat_lt m z hz
        obtain ⟨z', hz'⟩ := plc_some hB h (p := z) (by omega)
        have a := lat_after hB h m (by omega) z hz i' z' h1 hz'
        have b := plc_lt h (p := z) (q := i + 1 + m) (by omega) (by omega) (by omega) hD hz' h2
        omega
      · cases hy
theorem bfr_after {D : UInt8 → UInt8 → Bool} (hB : Bnd D) {s t : Wd} (h : Eqv D t s) {i k : Nat} (hk : k < s.length) (hb : bfr D s i k = true) {i' k' : Nat} (h1 : plc s t i = some i') (h2 : plc s t k = some k') : i' < k' := by
  unfold bfr at hb
  rw [Bool.and_eq_true, decide_eq_true_iff] at hb
  obtain ⟨hik, hh⟩ := hb
  obtain ⟨z, hz, hD⟩ := List.any_eq_true.1 hh
  have hzl := lat_lt _ z hz
  obtain ⟨z', hz'⟩ := plc_some hB h (p := z) (by omega)
  have a := lat_after hB h (k - i - 1) (by omega) z hz i' z' h1 hz'
  have b := plc_lt h (p := z) (q := k) (by omega) hk (by omega) hD hz' h2
  omega
theorem lat_mono {D : UInt8 → UInt8 → Bool} {s : Wd} {i : Nat} {m : Nat} : ∀ {M : Nat}, m ≤ M → ∀ y ∈ lat D s i m, y ∈ lat D s i M
  | 0, h, y, hy => by
    obtain rfl : m = 0 := by omega
    exact hy
  | M + 1, h, y, hy => by
    by_cases e : m = M + 1
    · subst e; exact hy
    · exact List.mem_append.2 (.inl (lat_mono (M := M) (by omega) y hy))
theorem lat_res {D : UInt8 → UInt8 → Bool} {s : Wd} {i : Nat} {m : Nat} : ∀ {M : Nat}, m ≤ M → ∀ y ∈ lat D s i M, y ≤ i + m → y ∈ lat D s i m
  | 0, h, y, hy, _ => by
    obtain rfl : m = 0 := by omega
    exact hy
  | M + 1, h, y, hy, hle => by
    by_cases e : m = M + 1
    · subst e; exact hy
    · rcases List.mem_append.1 hy with hy | hy
      · exact lat_res (M := M) (by omega) y hy hle
      · split at hy
        · have := List.mem_singleton.1 hy; omega
        · cases hy
theorem atN_left {x : UInt8} : ∀ (A B : Wd) (n q : Nat), n < A.count x → atN x n 0 (A ++ B) = some q → q < A.length
  | [], B, n, q, h, _ => by simp at h
  | b :: A, B, n, q, h, hq => by
    simp only [List.cons_append, atN] at hq
    by_cases hb : b = x
    · rw [if_pos hb] at hq
      by_cases hn : n = 0
      · rw [if_pos hn] at hq
        rw [← Option.some.inj hq]; simp
      · rw [if_neg hn, atN_shift] at hq
        obtain ⟨k, hk, rfl⟩ := Option.map_eq_some_iff.1 hq
        rw [hb, List.count_cons_self] at h
        have := atN_left A B (n - 1) k (by omega) hk
        simp only [List.length_cons]; omega
    · rw [if_neg hb, atN_shift] at hq
      obtain ⟨k, hk, rfl⟩ := Option.map_eq_some_iff.1 hq
      rw [List.count_cons_of_ne hb] at h
      have := atN_left A B n k h hk
      simp only [List.length_cons]; omega
theorem atN_right {x : UInt8} : ∀ (A B : Wd) (n q : Nat), A.count x ≤ n → atN x n 0 (A ++ B) = some q → A.length ≤ q
  | [], B, n, q, h, _ => by simp
  | b :: A, B, n, q, h, hq => by
    simp only [List.cons_append, atN] at hq
    by_cases hb : b = x
    · rw [hb, List.count_cons_self] at h
      rw [if_pos hb, if_neg (by omega), atN_shift] at hq
      obtain ⟨k, hk, rfl⟩ := Option.map_eq_some_iff.1 hq
      have := atN_right A B (n - 1) k (by omega) hk
      simp only [List.length_cons]; omega
    · rw [if_neg hb, atN_shift] at hq
      obtain ⟨k, hk, rfl⟩ := Option.map_eq_some_iff.1 hq
      rw [List.count_cons_of_ne hb] at h
      have := atN_right A B n k h hk
      simp only [List.length_cons]; omega
theorem take_range (s : Wd) {k : Nat} (hk : k ≤ s.length) : s.take k = (List.range k).map fun p => s.getD p 0 := by
  apply List.ext_getElem
  · rw [List.length_take, List.length_map, List.length_range]; omega
  · intro p h1 h2
    rw [List.length_take] at h1
    rw [List.getElem_take, List.getElem_map, List.getElem_range, List.getD_eq_getElem?_getD, List.getElem?_eq_getElem (by omega)]; rfl
theorem bfr_not {D : UInt8 → UInt8 → Bool} (hB : Bnd D) {s : Wd} {i k : Nat} (hi : i < s.length) (hk : k < s.length) (hne : i ≠ k) (hb : bfr D s i k = false) : ∃ t, Eqv D t s ∧ ∀ i' k', plc s t i = some i' → plc s t k = some k' → k' < i' := by
  by_cases hik : i < k
  · have hnk : k ∉ lat D s i (s.length - 1 - i) := fun hm => by
      have h1 := lat_res (m := k - i) (by omega) k hm (by omega)
      obtain ⟨m, hm'⟩ : ∃ m, k - i = m + 1 := ⟨k - i - 1, by omega⟩
      rw [hm'] at h1
      rcases List.mem_append.1 h1 with h1 | h1
      · have := lat_lt m k h1; omega
      · split at h1
        · rename_i hh
          unfold bfr at hb
          rw [decide_eq_true hik, Bool.true_and, show k - i - 1 = m by omega] at hb
          rw [show i + 1 + m = k by omega, hb] at hh
          cases hh
        · cases h1
    have hup : ∀ p q, p < q → q < s.length → p ∈ lat D s i (s.length - 1 - i) → D (s.getD p 0) (s.getD q 0) = true → q ∈ lat D s i (s.length - 1 - i) := fun p q hpq hq hp hD => by
      have hpl := lat_lt _ p hp
      have h1 := lat_res (m := q - i - 1) (by omega) p hp (by omega)
      refine lat_mono (m := q - i - 1 + 1) (by omega) q ?_
      rw [lat]
      refine List.mem_append.2 (.inr ?_)
      have hh : hit D s (lat D s i (q - i - 1)) (i + 1 + (q - i - 1)) = true := List.any_eq_true.2 ⟨p, h1, by rw [show i + 1 + (q - i - 1) = q by omega]; exact hD⟩
      rw [if_pos hh, show i + 1 + (q - i - 1) = q by omega]
      simp
    have hi0 : i ∈ lat D s i (s.length - 1 - i) := lat_mono (m := 0) (by omega) i (by simp [lat])
    generalize hLt : lat D s i (s.length - 1 - i) = Lt at *
    let L : List (UInt8 × Bool) := (List.range s.length).map fun p => (s.getD p 0, decide (p ∈ Lt))
    have hL1 : L.map (·.1) = s := by
      show ((List.range s.length).map fun p => (s.getD p 0, decide (p ∈ Lt))).map (·.1) = s
      rw [List.map_map]
      have := take_range s (Nat.le_refl s.length)
      rw [List.take_length] at this
      exact this.symm
    have hL2 : L.Pairwise fun p q => p.2 = true → D p.1 q.1 = true → q.2 = true := by
      show ((List.range s.length).map fun p => (s.getD p 0, decide (p ∈ Lt))).Pairwise _
      rw [List.pairwise_map]
      refine List.Pairwise.imp_of_mem (R := (· < ·)) (fun {p q} hp hq hpq h1 h2 => ?_) List.pairwise_lt_range
      exact decide_eq_true (hup p q hpq (List.mem_range.1 hq) (of_decide_eq_true h1) h2)
    have hE := part_eqv hB L hL2
    rw [hL1] at hE
    have hcnt : ∀ x, ((L.filter fun p => !p.2).map (·.1)).count x = (List.range s.length).countP fun p => (s.getD p 0 == x) && !decide (p ∈ Lt) := fun x => by
      show ((((List.range s.length).map fun p => (s.getD p 0, decide (p ∈ Lt))).filter fun p => !p.2).map (·.1)).count x = _
      rw [List.count, List.countP_map, List.countP_filter, List.countP_map]
      rfl
    have hc2 : ∀ p x, p ≤ s.length → (s.take p).count x = (List.range p).countP fun q => s.getD q 0 == x := fun p x hp => by
      rw [take_range s hp, List.count, List.countP_map]; rfl
    refine ⟨_, hE.symm, fun i' k' h1 h2 => ?_⟩
    have a1 := atN_left _ _ _ k' (show (s.take k).count (s.getD k 0) < _ from ?_) h2
    · have a2 := atN_right _ _ _ i' (show _ ≤ (s.take i).count (s.getD i 0) from ?_) h1
      · omega
      · rw [hcnt, hc2 i _ (by omega)]
        have hr : List.range s.length = List.range i ++ List.range' i (s.length - i) := by
          rw [List.range_eq_range', List.range_eq_range']
          have := List.range'_append_1 (s := 0) (m := i) (n := s.length - i)
          rw [Nat.zero_add, show i + (s.length - i) = s.length by omega] at this
          exact this.symm
        rw [hr, List.countP_append]
        have hz : (List.range' i (s.length - i)).countP (fun p => (s.getD p 0 == s.getD i 0) && !decide (p ∈ Lt)) = 0 := by
          rw [List.countP_eq_zero]
          intro p hp
          have hpr := List.mem_range'_1.1 hp
          by_cases hpi : p = i
          · subst hpi; simp [hi0]
          · by_cases hs : s.getD p 0 = s.getD i 0
            · have := hup i p (by omega) (by omega) hi0 (by rw [hs]; exact hB.refl _)
              simp [this]
            · rw [beq_eq_false_iff_ne.2 hs]; simp
        rw [hz, Nat.add_zero]
        exact List.countP_mono_left fun p _ h => by
          rw [Bool.and_eq_true] at h; exact h.1
    · rw [hcnt, hc2 k _ (by omega)]
      have h3 : (List.range (k + 1)).countP (fun p => (s.getD p 0 == s.getD k 0) && !decide (p ∈ Lt)) ≤ (List.range s.length).countP (fun p => (s.getD p 0 == s.getD k 0) && !decide (p ∈ Lt)) := by
        refine List.Sublist.countP_le ?_
        have : List.range s.length = List.range (k + 1) ++ List.range' (k + 1) (s.length - (k + 1)) := by
          rw [List.range_eq_range', List.range_eq_range']
          have := List.range'_append_1 (s := 0) (m := k + 1) (n := s.length - (k + 1))
          rw [Nat.zero_add, show k + 1 + (s.length - (k + 1)) = s.length by omega] at this
          exact this.symm
        rw [this]
        exact List.sublist_append_left _ _
      have h4 : (List.range (k + 1)).countP (fun p => (s.getD p 0 == s.getD k 0) && !decide (p ∈ Lt)) = (List.range (k + 1)).countP fun p => s.getD p 0 == s.getD k 0 := by
        refine List.countP_congr fun p hp => ?_
        rw [List.mem_range] at hp
        by_cases hs : s.getD p 0 = s.getD k 0
        · have : p ∉ Lt := fun hm => by
            by_cases hpk : p = k
            · exact hnk (hpk ▸ hm)
            · exact hnk (hup p k (by omega) hk hm (by rw [hs]; exact hB.refl _))
          simp [this]
        · rw [beq_eq_false_iff_ne.2 hs]; simp
      have h5 : (List.range (k + 1)).countP (fun p => s.getD p 0 == s.getD k 0) = (List.range k).countP (fun p => s.getD p 0 == s.getD k 0) + 1 := by
        rw [List.range_succ, List.countP_append]; simp
      omega
  · refine ⟨s, Eqv.refl s, fun i' k' h1 h2 => ?_⟩
    rw [plc_self hi] at h1
    rw [plc_self hk] at h2
    have := Option.some.inj h1
    have := Option.some.inj h2
    omega
end Go.Proofs.YtmpbbkldopfkpaaDoor
