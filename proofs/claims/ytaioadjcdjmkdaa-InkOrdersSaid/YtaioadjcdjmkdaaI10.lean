/-
  The reference tries all orders, one after another.
-/
import Derived.Test.YtaioadjcdjmkdaaI9
namespace Go.Proofs.Ytaioadjcdjmkdaa
open Go.RowKit
set_option linter.unusedVariables false

theorem getD_mid {α : Type} (A B : List α) (x d : α) : (A ++ x :: B).getD A.length d = x := by
  rw [List.getD_eq_getElem?_getD]; simp
theorem set_mid {α : Type} (A B : List α) (x y : α) : (A ++ x :: B).set A.length y = A ++ y :: B := by
  induction A with
  | nil => rfl
  | cons a A ih => simp only [List.cons_append, List.length_cons, List.set_cons_succ, ih]
abbrev Ro := List Int × Int × Int
section
variable (p : Pal) (N : Nat)
/-- What is done with an order. -/
def cnF (most : Int) (best : List Int) (rec : Int → List Int → List Int → Option Ro) (o : List Int) : Option Ro :=
  (B56 p o).bind fun r4 => (B59 r4).bind fun r5 => cond (decide ((r5.length : Int) > most)) (chk (small (0 + o.length) 8) (rec (r5.length : Int) ([] ++ o) o)) (rec most best o)

/-! ### a stretch, reversed -/
theorem rev_loop (most : Int) (best : List Int) (rec : Int → List Int → List Int → Option Ro) : ∀ (m n : Nat) (P S R : List Int), S.length = m → m < n → P.length + S.length + R.length ≤ 1000 →
    l40f B55 B59 B56 N p most best rec n (P.length : Int) ((P.length : Int) + (S.length : Int) - 1) (P ++ (S ++ R)) = cnF p most best rec (P ++ (S.reverse ++ R)) := by
  intro m
  induction m using Nat.strongRecOn with
  | _ m ih =>
    intro n P S R hm hn hl
    obtain ⟨n, rfl⟩ : ∃ q, n = q + 1 := ⟨n - 1, by omega⟩
    cases S with
    | nil =>
      have e : decide ((P.length : Int) < (P.length : Int) + (([] : List Int).length : Int) - 1) = false := decide_eq_false (by simp; omega)
      simp only [l40f, e, cond_false]; rfl
    | cons s S1 =>
      rcases List.eq_nil_or_concat S1 with rfl | ⟨S', s', rfl⟩
      · have e : decide ((P.length : Int) < (P.length : Int) + (([s] : List Int).length : Int) - 1) = false := decide_eq_false (by simp)
        simp only [l40f, e, cond_false]; rfl
      · rw [List.concat_eq_append] at *
        simp only [List.length_cons, List.length_append, List.length_nil] at hm hl
        have eb : (P.length : Int) + ((s :: (S' ++ [s'])).length : Int) - 1 = (((P ++ s :: S').length : Nat) : Int) := by simp; omega
        have eo1 : P ++ (s :: (S' ++ [s']) ++ R) = P ++ s :: (S' ++ s' :: R) := by simp
        have eo2 : P ++ s :: (S' ++ s' :: R) = (P ++ s :: S') ++ s' :: R := by simp
        have c1 : decide ((P.length : Int) < (((P ++ s :: S').length : Nat) : Int)) = true := decide_eq_true (by simp; omega)
        have g1 : (P ++ s :: (S' ++ s' :: R)).getD P.length 0 = s := getD_mid ..
        have g2 : (P ++ s :: (S' ++ s' :: R)).getD (P ++ s :: S').length 0 = s' := by rw [eo2]; exact getD_mid ..
        have s1 : (P ++ s :: (S' ++ s' :: R)).set P.length s' = P ++ s' :: (S' ++ s' :: R) := set_mid ..
        have s2 : (P ++ s' :: (S' ++ s' :: R)).set (P ++ s :: S').length s = P ++ s' :: (S' ++ s :: R) := by
          have : (P ++ s :: S').length = (P ++ s' :: S').length := by simp
          rw [this, show P ++ s' :: (S' ++ s' :: R) = (P ++ s' :: S') ++ s' :: R by simp, set_mid]; simp
        have d1 : decide (0 ≤ (((P ++ s :: S').length : Nat) : Int) ∧ (((P ++ s :: S').length : Nat) : Int) < ((P ++ s :: (S' ++ s' :: R)).length : Int)) = true := decide_eq_true (by simp; omega)
        have d2 : decide (0 ≤ (P.length : Int) ∧ (P.length : Int) < ((P ++ s :: (S' ++ s' :: R)).length : Int)) = true := decide_eq_true (by simp; omega)
        have d3 : decide (0 ≤ (((P ++ s :: S').length : Nat) : Int) ∧ (((P ++ s :: S').length : Nat) : Int) < ((P ++ s' :: (S' ++ s' :: R)).length : Int)) = true := decide_eq_true (by simp; omega)
        have w1 : w64 ((P.length : Int) + 1) = (((P ++ [s']).length : Nat) : Int) := by rw [w64_small (by omega)]; simp
        have w2 : w64 ((((P ++ s :: S').length : Nat) : Int) - 1) = (((P ++ [s']).length : Nat) : Int) + (S'.length : Int) - 1 := by
          rw [w64_small (by simp; omega)]; simp; omega
        rw [eb, eo1]
        simp only [l40f, c1, cond_true, Int.toNat_natCast, d1, d2, chk_true, g1, g2, s1, d3, s2, w1, w2]
        have := ih S'.length (by omega) n (P ++ [s']) S' (s :: R) rfl (by omega) (by simp; omega)
        rw [show P ++ s' :: (S' ++ s :: R) = (P ++ [s']) ++ (S' ++ s :: R) by simp, this]
        congr 1; simp

/-! ### the next order -/
theorem piv_loop (most : Int) (best : List Int) (rec : Int → List Int → List Int → Option Ro) {pre D : List Int} {x d : Int} {D' : List Int} (hD : D = d :: D') (hd : Dsc D) (hx : x < d) (hl : (pre ++ x :: D).length ≤ 1000) : ∀ (j n : Nat), j + 1 ≤ D.length → j < n →
    l40d B55 B59 B56 N p most best (pre ++ x :: D) rec n ((pre.length + j : Nat) : Int) = l40e B55 B59 B56 N p most best (pre ++ x :: D) (pre.length : Int) rec N (w64 (((pre ++ x :: D).length : Int) - 1)) := by
  intro j
  have er : ∀ j : Nat, (pre ++ x :: D).getD (pre.length + 1 + j) 0 = D.getD j 0 := fun j => by
    rw [List.getD_eq_getElem?_getD, List.getElem?_append_right (by omega), show pre.length + 1 + j - pre.length = j + 1 by omega]; simp
  have hlen : (pre ++ x :: D).length = pre.length + 1 + D.length := by simp; omega
  induction j with
  | zero =>
    intro n h1 h2
    obtain ⟨n, rfl⟩ : ∃ q, n = q + 1 := ⟨n - 1, by omega⟩
    have e1 : decide (((pre.length + 0 : Nat) : Int) ≥ 0) = true := decide_eq_true (by omega)
    have e2 : decide (0 ≤ ((pre.length + 0 : Nat) : Int) ∧ ((pre.length + 0 : Nat) : Int) < ((pre ++ x :: D).length : Int)) = true := decide_eq_true (by omega)
    have e3 : w64 (((pre.length + 0 : Nat) : Int) + 1) = ((pre.length + 1 + 0 : Nat) : Int) := by rw [w64_small (by omega)]; omega
    have e4 : decide (0 ≤ ((pre.length + 1 + 0 : Nat) : Int) ∧ ((pre.length + 1 + 0 : Nat) : Int) < ((pre ++ x :: D).length : Int)) = true := decide_eq_true (by omega)
    have g1 : (pre ++ x :: D).getD (pre.length + 0) 0 = x := getD_mid ..
    have g2 := er 0
    have g3 : D.getD 0 0 = d := by rw [hD]; rfl
    have e5 : decide (x ≥ d) = false := decide_eq_false (by omega)
    have e6 : decide (((pre.length + 0 : Nat) : Int) < 0) = false := decide_eq_false (by omega)
    simp only [l40d, e1, e2, e3, e4, cond_true, chk_true, Int.toNat_natCast, g1, g2, g3, e5, cond_false, e6]
    rfl
  | succ j ih =>
    intro n h1 h2
    obtain ⟨n, rfl⟩ : ∃ q, n = q + 1 := ⟨n - 1, by omega⟩
    have e1 : decide (((pre.length + (j + 1) : Nat) : Int) ≥ 0) = true := decide_eq_true (by omega)
    have e2 : decide (0 ≤ ((pre.length + (j + 1) : Nat) : Int) ∧ ((pre.length + (j + 1) : Nat) : Int) < ((pre ++ x :: D).length : Int)) = true := decide_eq_true (by omega)
    have e3 : w64 (((pre.length + (j + 1) : Nat) : Int) + 1) = ((pre.length + 1 + (j + 1) : Nat) : Int) := by rw [w64_small (by omega)]; omega
    have e4 : decide (0 ≤ ((pre.length + 1 + (j + 1) : Nat) : Int) ∧ ((pre.length + 1 + (j + 1) : Nat) : Int) < ((pre ++ x :: D).length : Int)) = true := decide_eq_true (by omega)
    have g1 : (pre ++ x :: D).getD (pre.length + (j + 1)) 0 = D.getD j 0 := by rw [← er j]; congr 1; omega
    have g2 := er (j + 1)
    have g3 : D.getD j 0 ≥ D.getD (j + 1) 0 := by
      have := (List.pairwise_iff_getElem.1 hd) j (j + 1) (by omega) (by omega) (by omega)
      rw [List.getD_eq_getElem?_getD, List.getD_eq_getElem?_getD, List.getElem?_eq_getElem (by omega : j < D.length), List.getElem?_eq_getElem (by omega : j + 1 < D.length)]
      exact this
    have e6 : w64 (((pre.length + (j + 1) : Nat) : Int) - 1) = ((pre.length + j : Nat) : Int) := by rw [w64_small (by omega)]; omega
    simp only [l40d, e1, e2, e3, e4, cond_true, chk_true, Int.toNat_natCast, g1, g2, decide_eq_true g3, e6]
    exact ih n (by omega) (by omega)
theorem end_loop (most : Int) (best : List Int) (rec : Int → List Int → List Int → Option Ro) {o : List Int} (hd : Dsc o) (hl : o.length ≤ 1000) : ∀ (j n : Nat), j ≤ o.length → j < n →
    l40d B55 B59 B56 N p most best o rec n ((j : Int) - 1 - (if j < o.length then 0 else 1)) = some (best, most, 0) := by
  have neg : ∀ (n : Nat) (i : Int), i < 0 → 0 < n → l40d B55 B59 B56 N p most best o rec n i = some (best, most, 0) := fun n i h1 h2 => by
    obtain ⟨n, rfl⟩ : ∃ q, n = q + 1 := ⟨n - 1, by omega⟩
    simp only [l40d, decide_eq_false (by omega : ¬ i ≥ 0), cond_false, decide_eq_true h1, cond_true]
  have main : ∀ (j n : Nat), j + 1 ≤ o.length → j < n → l40d B55 B59 B56 N p most best o rec n ((j : Int) - 1) = some (best, most, 0) := by
    intro j
    induction j with
    | zero => intro n h1 h2; exact neg n _ (by omega) h2
    | succ j ih =>
      intro n h1 h2
      obtain ⟨n, rfl⟩ : ∃ q, n = q + 1 := ⟨n - 1, by omega⟩
      have e0 : (((j + 1 : Nat) : Int) - 1) = (j : Int) := by omega
      have e3 : w64 ((j : Int) + 1) = ((j + 1 : Nat) : Int) := w64_succ (by omega)
      have e6 : w64 ((j : Int) - 1) = (j : Int) - 1 := w64_small (by omega)
      have g3 : o.getD j 0 ≥ o.getD (j + 1) 0 := by
        have := (List.pairwise_iff_getElem.1 hd) j (j + 1) (by omega) (by omega) (by omega)
        rw [List.getD_eq_getElem?_getD, List.getD_eq_getElem?_getD, List.getElem?_eq_getElem (by omega : j < o.length), List.getElem?_eq_getElem (by omega : j + 1 < o.length)]
        exact this
      rw [e0]
      simp only [l40d, decide_eq_true (by omega : (j : Int) ≥ 0), e3, ixB (show j < o.length by omega), ixB (show j + 1 < o.length by omega), cond_true, chk_true, Int.toNat_natCast, decide_eq_true g3, e6]
      exact ih n (by omega) (by omega)
  intro j n h1 h2
  by_cases h : j < o.length
  · rw [if_pos h, Int.sub_zero]; exact main j n h h2
  · rw [if_neg h]
    cases j with
    | zero => exact neg n _ (by omega) (by omega)
    | succ j =>
      have := main j n (by omega) (by omega)
      rw [← this]; congr 1; omega
theorem swp_loop (most : Int) (best : List Int) (rec : Int → List Int → List Int → Option Ro) {pre A B : List Int} {x y : Int} (hxy : x < y) (hB : ∀ b ∈ B, b ≤ x) (hl : (pre ++ x :: (A ++ y :: B)).length ≤ 1000) (hN : 1000 < N) : ∀ (j n : Nat), j ≤ B.length → j < n →
    l40e B55 B59 B56 N p most best (pre ++ x :: (A ++ y :: B)) (pre.length : Int) rec n (((pre ++ x :: A).length + j : Nat) : Int) = cnF p most best rec (pre ++ y :: (A ++ x :: B).reverse) := by
  have hlen : (pre ++ x :: (A ++ y :: B)).length = (pre ++ x :: A).length + 1 + B.length := by simp; omega
  have hlen1 : (pre ++ x :: A).length = pre.length + 1 + A.length := by simp; omega
  have g1 : (pre ++ x :: (A ++ y :: B)).getD pre.length 0 = x := getD_mid ..
  have eo : pre ++ x :: (A ++ y :: B) = (pre ++ x :: A) ++ y :: B := by simp
  have i1 : decide (0 ≤ (pre.length : Int) ∧ (pre.length : Int) < ((pre ++ x :: (A ++ y :: B)).length : Int)) = true := decide_eq_true (by omega)
  intro j
  induction j with
  | zero =>
    intro n h1 h2
    obtain ⟨n, rfl⟩ : ∃ q, n = q + 1 := ⟨n - 1, by omega⟩
    have g2 : (pre ++ x :: (A ++ y :: B)).getD (pre ++ x :: A).length 0 = y := by rw [eo]; exact getD_mid ..
    have s1 : (pre ++ x :: (A ++ y :: B)).set pre.length y = pre ++ y :: (A ++ y :: B) := set_mid ..
    have s2 : (pre ++ y :: (A ++ y :: B)).set (pre ++ x :: A).length x = pre ++ y :: (A ++ x :: B) := by
      have : (pre ++ x :: A).length = (pre ++ y :: A).length := by simp
      rw [this, show pre ++ y :: (A ++ y :: B) = (pre ++ y :: A) ++ y :: B by simp, set_mid]; simp
    have i2 : decide (0 ≤ (((pre ++ x :: A).length : Nat) : Int) ∧ (((pre ++ x :: A).length : Nat) : Int) < ((pre ++ x :: (A ++ y :: B)).length : Int)) = true := decide_eq_true (by omega)
    have i3 : decide (0 ≤ (((pre ++ x :: A).length : Nat) : Int) ∧ (((pre ++ x :: A).length : Nat) : Int) < ((pre ++ y :: (A ++ y :: B)).length : Int)) = true := decide_eq_true (by
      have : (pre ++ y :: (A ++ y :: B)).length = (pre ++ x :: (A ++ y :: B)).length := by simp
      omega)
    have w1 : w64 ((pre.length : Int) + 1) = (((pre ++ [y]).length : Nat) : Int) := by rw [w64_small (by omega)]; simp
    have w2 : w64 (((pre ++ y :: (A ++ x :: B)).length : Int) - 1) = (((pre ++ [y]).length : Nat) : Int) + ((A ++ x :: B).length : Int) - 1 := by
      rw [w64_small (by simp; simp at hl; omega)]; simp; omega
    simp only [l40e, Nat.add_zero, Int.toNat_natCast, i1, i2, chk_true, g1, g2, decide_eq_false (by omega : ¬ y ≤ x), cond_false, s1, i3, s2, w1, w2]
    have := rev_loop p N most best rec (A ++ x :: B).length N (pre ++ [y]) (A ++ x :: B) [] rfl (by simp at hl; simp; omega) (by simp at hl; simp; omega)
    rw [List.append_nil] at this
    rw [show pre ++ y :: (A ++ x :: B) = (pre ++ [y]) ++ (A ++ x :: B) by simp, this]
    congr 1; simp
  | succ j ih =>
    intro n h1 h2
    obtain ⟨n, rfl⟩ : ∃ q, n = q + 1 := ⟨n - 1, by omega⟩
    have g2 : (pre ++ x :: (A ++ y :: B)).getD ((pre ++ x :: A).length + (j + 1)) 0 = B.getD j 0 := by
      rw [eo, List.getD_eq_getElem?_getD, List.getElem?_append_right (by omega), show (pre ++ x :: A).length + (j + 1) - (pre ++ x :: A).length = j + 1 by omega]; simp
    have i2 : decide (0 ≤ (((pre ++ x :: A).length + (j + 1) : Nat) : Int) ∧ (((pre ++ x :: A).length + (j + 1) : Nat) : Int) < ((pre ++ x :: (A ++ y :: B)).length : Int)) = true := decide_eq_true (by omega)
    have hb := hB _ (getD_mem (d := 0) (show j < B.length by omega))
    have w1 : w64 ((((pre ++ x :: A).length + (j + 1) : Nat) : Int) - 1) = (((pre ++ x :: A).length + j : Nat) : Int) := by rw [w64_small (by omega)]; omega
    simp only [l40e, Int.toNat_natCast, i1, i2, chk_true, g1, g2, decide_eq_true hb, cond_true, w1]
    exact ih n (by omega) (by omega)
theorem next_ok (hN : 1000 < N) {o o' : List Int} (h : NX o o') (hl : o.length ≤ 1000) (n : Nat) (most : Int) (best : List Int) :
    l40c B55 B59 B56 N p (n + 1) most best o = cnF p most best (fun y0 y1 y2 => l40c B55 B59 B56 N p n y0 y1 y2) o' := by
  obtain ⟨pre, A, B, x, y, rfl, h2, h3, h4, h5, rfl⟩ := h
  obtain ⟨d, D', hD, hx⟩ : ∃ d D', A ++ y :: B = d :: D' ∧ x < d := by
    cases A with
    | nil => exact ⟨y, B, rfl, h4⟩
    | cons a A => exact ⟨a, A ++ y :: B, rfl, h3 a (by simp)⟩
  have hlD : (pre ++ x :: (A ++ y :: B)).length = pre.length + 1 + (A ++ y :: B).length := by simp; omega
  have hD1 : 1 ≤ (A ++ y :: B).length := by rw [hD]; simp
  have e1 : w64 (((pre ++ x :: (A ++ y :: B)).length : Int) - 2) = ((pre.length + ((A ++ y :: B).length - 1) : Nat) : Int) := by
    rw [w64_small (by omega)]; omega
  have e2 : w64 (((pre ++ x :: (A ++ y :: B)).length : Int) - 1) = (((pre ++ x :: A).length + B.length : Nat) : Int) := by
    rw [w64_small (by omega)]; simp; omega
  have e3 : (A ++ y :: B).length = A.length + 1 + B.length := by simp; omega
  simp only [l40c, e1]
  rw [piv_loop p N most best _ hD h2 hx hl _ _ (by omega) (by omega), e2]
  exact swp_loop p N most best _ h4 h5 hl hN _ _ (Nat.le_refl _) (by omega)
theorem last_ok (hN : 1000 < N) {o : List Int} (h : Dsc o) (hl : o.length ≤ 1000) (n : Nat) (most : Int) (best : List Int) :
    l40c B55 B59 B56 N p (n + 1) most best o = some (best, most, 0) := by
  have e1 : w64 ((o.length : Int) - 2) = ((o.length : Int) - 1 - (if o.length < o.length then 0 else 1)) := by
    rw [w64_small (by omega), if_neg (Nat.lt_irrefl _)]; omega
  simp only [l40c, e1]
  exact end_loop p N most best _ h hl o.length N (Nat.le_refl _) (by omega)
end

/-- One after another. -/
theorem cn_ok {p : Pal} (hp : PalOk p) {o : List Int} (hs : SeqOk p o) (hl : o.length ≤ 1000) (most : Int) (best : List Int) (rec : Int → List Int → List Int → Option Ro) :
    cnF p most best rec o = rec (stp p (most, best) o).1 (stp p (most, best) o).2 o := by
  have hg := giv_lt hp hs
  have h7 := pow_le7 (nat7 hp).2.1
  have e : (colsI (givI p o)).length = cnt p o := by simp [colsI, cnt]
  rw [cnF, B56, if_pos (okS_ok.2 ⟨hp, hl, hs⟩), Option.bind_some, B59, if_pos (by omega), Option.bind_some, Int.toNat_natCast, e, stp]
  cases decide ((cnt p o : Int) > most) with
  | true => rw [cond_true, cond_true, chk_of (small_of (by omega) (by decide)), List.nil_append]
  | false => rfl
theorem chain_ok {p : Pal} (hp : PalOk p) {N : Nat} (hN : 1000 < N) : ∀ (T : List (List Int)) (o z : List Int) (n : Nat) (s : Int × List Int), Lk (o :: T) z → Dsc z → SeqOk p o → o.length ≤ 1000 → T.length < n →
    l40c B55 B59 B56 N p n s.1 s.2 o = some ((T.foldl (stp p) s).2, (T.foldl (stp p) s).1, 0)
  | [], o, z, n, s, h, hz, _, hl, hn => by
    obtain rfl : o = z := h
    obtain ⟨n, rfl⟩ : ∃ q, n = q + 1 := ⟨n - 1, by omega⟩
    exact last_ok p N hN hz hl n s.1 s.2
  | o' :: T, o, z, n, s, h, hz, hs, hl, hn => by
    obtain ⟨n, rfl⟩ : ∃ q, n = q + 1 := ⟨n - 1, by omega⟩
    obtain ⟨h1, h2⟩ := h
    have hp' := h1.perm
    have hs' : SeqOk p o' := fun x hx => hs x (hp'.mem_iff.1 hx)
    have hl' : o'.length ≤ 1000 := by rw [hp'.length_eq]; exact hl
    rw [next_ok p N hN h1 hl n s.1 s.2, cn_ok hp hs' hl', List.foldl_cons]
    exact chain_ok hp hN T o' z n (stp p s o') h2 hz hs' hl' (by simpa using hn)

/-! ### sorted by swaps -/
theorem ins_loop (p : Pal) (N : Nat) (i : Int) (rec : Int → List Int → Option Ro) : ∀ (k n : Nat) (P1 P2 R : List Int) (x : Int), P1.length = k → k < n → (P1 ++ x :: (P2 ++ R)).length ≤ 1000 → Asc (P1 ++ P2) → (∀ y ∈ P2, x < y) →
    ∃ Q, Asc Q ∧ Q.Perm (P1 ++ x :: P2) ∧ l40b B55 B59 B56 N p i rec n (k : Int) (P1 ++ x :: (P2 ++ R)) = rec (w64 (i + 1)) (Q ++ R) := by
  intro k
  induction k with
  | zero =>
    intro n P1 P2 R x h1 h2 h3 h4 h5
    obtain ⟨n, rfl⟩ : ∃ q, n = q + 1 := ⟨n - 1, by omega⟩
    obtain rfl := List.eq_nil_of_length_eq_zero h1
    refine ⟨x :: P2, List.pairwise_cons.2 ⟨fun y hy => by have := h5 y hy; omega, h4⟩, .refl _, ?_⟩
    simp only [l40b, show decide (((0 : Nat) : Int) > 0) = false from rfl, cond_false]; rfl
  | succ k ih =>
    intro n P1 P2 R x h1 h2 h3 h4 h5
    obtain ⟨n, rfl⟩ : ∃ q, n = q + 1 := ⟨n - 1, by omega⟩
    rcases List.eq_nil_or_concat P1 with rfl | ⟨P, y, rfl⟩
    · cases h1
    · rw [List.concat_eq_append] at *
      have hk : P.length = k := by simpa using h1
      subst hk
      have hkk : (P ++ [y]).length = P.length + 1 := by simp
      have eo : (P ++ [y]) ++ x :: (P2 ++ R) = P ++ y :: x :: (P2 ++ R) := by simp
      have g1 : ((P ++ [y]) ++ x :: (P2 ++ R)).getD (P.length + 1) 0 = x := by rw [← hkk]; exact getD_mid ..
      have g2 : ((P ++ [y]) ++ x :: (P2 ++ R)).getD P.length 0 = y := by rw [eo]; exact getD_mid ..
      have e1 : decide (((P.length + 1 : Nat) : Int) > 0) = true := decide_eq_true (by omega)
      have e2 : w64 (((P.length + 1 : Nat) : Int) - 1) = (P.length : Int) := by rw [w64_small (by simp at h3; omega)]; omega
      have hlen : ((P ++ [y]) ++ x :: (P2 ++ R)).length = P.length + 2 + (P2 ++ R).length := by simp; omega
      have e3 := ixB (t := P.length + 1) (n := ((P ++ [y]) ++ x :: (P2 ++ R)).length) (by omega)
      have e4 := ixB (t := P.length) (n := ((P ++ [y]) ++ x :: (P2 ++ R)).length) (by omega)
      have s1 : ((P ++ [y]) ++ x :: (P2 ++ R)).set (P.length + 1) y = P ++ y :: y :: (P2 ++ R) := by rw [← hkk, set_mid]; simp
      have e5 := ixB (t := P.length) (n := (P ++ y :: y :: (P2 ++ R)).length) (by simp)
      have s2 : (P ++ y :: y :: (P2 ++ R)).set P.length x = P ++ x :: ((y :: P2) ++ R) := set_mid ..
      simp only [l40b, e1, cond_true, Int.toNat_natCast, e2, e3, e4, chk_true, g1, g2, s1, e5, s2]
      rw [List.append_assoc] at h4
      by_cases hxy : x < y
      · obtain ⟨Q, q1, q2, q3⟩ := ih n P (y :: P2) R x rfl (by omega) (by simp at h3; simp; omega) h4 (fun z hz => by
          rcases List.mem_cons.1 hz with rfl | hz
          · exact hxy
          · exact h5 z hz)
        refine ⟨Q, q1, q2.trans ?_, ?_⟩
        · rw [List.append_assoc]; exact List.Perm.append_left P (List.Perm.swap y x P2)
        · rw [decide_eq_true hxy, cond_true]; exact q3
      · refine ⟨(P ++ [y]) ++ x :: P2, ?_, .refl _, ?_⟩
        · rw [List.append_assoc]
          simp only [List.pairwise_append, List.pairwise_cons, List.cons_append, List.nil_append] at h4 ⊢
          obtain ⟨a1, ⟨a2, a3⟩, a4⟩ := h4
          refine ⟨a1, ⟨fun z hz => ?_, fun z hz => by have := h5 z hz; omega, a3⟩, fun u hu z hz => ?_⟩
          · rcases List.mem_cons.1 hz with rfl | hz
            · omega
            · exact a2 z hz
          · rcases List.mem_cons.1 hz with rfl | hz
            · exact a4 u hu z (by simp)
            · rcases List.mem_cons.1 hz with rfl | hz
              · have := a4 u hu y (by simp); omega
              · exact a4 u hu z (by simp [hz])
        · rw [decide_eq_false hxy, cond_false]; simp
theorem srt_loop (p : Pal) (N : Nat) (l : List Int) (hl : l.length ≤ 1000) (hN : 1000 < N) : ∀ (j i n : Nat) (o : List Int), i + j = l.length → j < n → o.Perm l → Asc (o.take i) →
    l40a B55 B59 B56 N p n (i : Int) o = chk (small (0 + (srt l).length) 8) ((B56 p (srt l)).bind fun r2 => (B59 r2).bind fun r3 => l40c B55 B59 B56 N p N (r3.length : Int) ([] ++ srt l) (srt l)) := by
  intro j
  induction j with
  | zero =>
    intro i n o h1 h2 h3 h4
    obtain ⟨n, rfl⟩ : ∃ q, n = q + 1 := ⟨n - 1, by omega⟩
    have ho := h3.length_eq
    have : o = srt l := asc_eq (by rw [List.take_of_length_le (by omega)] at h4; exact h4) (srt_asc l) (h3.trans (srt_perm l).symm)
    subst this
    simp only [l40a, decide_eq_false (show ¬ (i : Int) < ((srt l).length : Int) by omega), cond_false]
  | succ j ih =>
    intro i n o h1 h2 h3 h4
    obtain ⟨n, rfl⟩ : ∃ q, n = q + 1 := ⟨n - 1, by omega⟩
    have ho := h3.length_eq
    have hi : i < o.length := by omega
    have es := split_at hi
    have hti : (o.take i).length = i := by simp; omega
    obtain ⟨Q, q1, q2, q3⟩ := ins_loop p N (i : Int) (fun y0 y1 => l40a B55 B59 B56 N p n y0 y1) i N (o.take i) [] (o.drop (i + 1)) (o.getD i 0) hti (by omega) (by rw [List.nil_append, ← es]; omega) (by rw [List.append_nil]; exact h4) (by simp)
    rw [List.nil_append, ← es] at q3
    have hQ : Q.length = i + 1 := by rw [q2.length_eq]; simp; omega
    simp only [l40a, ixA hi, cond_true]
    rw [q3, w64_succ (by omega)]
    refine ih (i + 1) n (Q ++ o.drop (i + 1)) (by omega) (by omega) ?_ (by rw [← hQ, List.take_left]; exact q1)
    refine List.Perm.trans ?_ h3
    conv => rhs; rw [es]
    have := q2.append_right (o.drop (i + 1))
    simpa using this

theorem KB40 : FnOk Try.prog 40 (F40 B39) := ok40 B55 B59 B56 KB58 KB59 KB60 B39 fun p l r h => by
  simp only [B39] at h
  split at h
  · rename_i hf
    obtain ⟨T, t1, t2⟩ := pm_ok (srt l).length (srt l) rfl (srt_asc l)
    refine ⟨1001 + T.length, ?_⟩
    rw [← h, m40, B55, if_pos hf, Option.bind_some, ordI]
    by_cases e : sqE p l 6 = 0
    · obtain ⟨hp, hl6, hs⟩ := sq_ok.1 e
      have e' : (sqE p l 6 != 0) = false := by rw [bne_eq_false_iff_eq]; exact e
      have hg := giv_lt hp (srt_seq hs)
      have h7 := pow_le7 (nat7 hp).2.1
      have hlen := srt_len l
      have es : ([] ++ l : List Int) = l := rfl
      rw [e', cond_false, if_pos e, chk_of (small_of (by omega) (by decide)), es]
      have s0 := srt_loop p (1001 + T.length) l (by omega) (by omega) l.length 0 (1001 + T.length) l (by omega) (by omega) (.refl _) (by simp)
      refine (show l40a B55 B59 B56 (1001 + T.length) p (1001 + T.length) 0 l = _ from s0).trans ?_
      have ec : (colsI (givI p (srt l))).length = cnt p (srt l) := by simp [colsI, cnt]
      have hc : 0 < cnt p (srt l) := List.length_pos_iff.2 (cols_ne hg.1 hg.2 (nat7 hp).2.1)
      rw [chk_of (small_of (by omega) (by decide)), B56, if_pos (okS_ok.2 ⟨hp, by omega, srt_seq hs⟩), Option.bind_some, B59, if_pos (by omega), Option.bind_some, Int.toNat_natCast, ec, List.nil_append]
      have := chain_ok hp (N := 1001 + T.length) (by omega) T (srt l) (srt l).reverse (1001 + T.length) ((cnt p (srt l) : Int), srt l) t2 (by
        refine List.pairwise_reverse.2 ?_
        exact srt_asc l) (srt_seq hs) (by omega) (by omega)
      refine this.trans ?_
      rw [← hlen, t1, List.foldl_cons]
      have e0 : stp p (0, []) (srt l) = ((cnt p (srt l) : Int), srt l) := by
        rw [stp, decide_eq_true (by simp only; omega), cond_true]
      rw [e0]
    · have e' : (sqE p l 6 != 0) = true := by rw [bne_iff_ne]; exact e
      rw [e', cond_true, if_neg e]
  · cases h

end Go.Proofs.Ytaioadjcdjmkdaa
