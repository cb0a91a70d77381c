/-
  What the laws without the reference need.
-/
import Derived.Test.YtaioadjcdjmkdaaJ3
import Derived.Test.YtaioadjcdjmkdaaQFS
namespace Go.Proofs.Ytaioadjcdjmkdaa
open Go.RowKit
set_option linter.unusedVariables false

/-! ### sorted lists -/
abbrev Asc (l : List Int) : Prop := l.Pairwise (· ≤ ·)
abbrev Dsc (l : List Int) : Prop := l.Pairwise (· ≥ ·)
theorem srt_asc (l : List Int) : Asc (srt l) := (srt_sorted l).imp fun h => of_decide_eq_true h
theorem asc_eq {l r : List Int} (h1 : Asc l) (h2 : Asc r) (h : l.Perm r) : l = r :=
  List.Perm.eq_of_pairwise (le := fun a b => a ≤ b) (fun a b _ _ h1 h2 => by omega) h1 h2 h

/-! ### the next order -/
def NX (o o' : List Int) : Prop := ∃ pre A B x y, o = pre ++ x :: (A ++ y :: B) ∧ Dsc (A ++ y :: B) ∧ (∀ a ∈ A, x < a) ∧ x < y ∧ (∀ b ∈ B, b ≤ x) ∧ o' = pre ++ y :: (A ++ x :: B).reverse
theorem NX.pre {o o' : List Int} (h : NX o o') (p : List Int) : NX (p ++ o) (p ++ o') := by
  obtain ⟨pre, A, B, x, y, h1, h2, h3, h4, h5, h6⟩ := h
  exact ⟨p ++ pre, A, B, x, y, by rw [h1, List.append_assoc], h2, h3, h4, h5, by rw [h6, List.append_assoc]⟩
theorem NX.perm {o o' : List Int} (h : NX o o') : o'.Perm o := by
  obtain ⟨pre, A, B, x, y, rfl, h2, h3, h4, h5, rfl⟩ := h
  refine List.Perm.append_left pre ?_
  have p1 : (y :: (A ++ x :: B).reverse).Perm (y :: (A ++ x :: B)) := (List.reverse_perm _).cons y
  have p2 : (y :: (A ++ x :: B)).Perm (y :: x :: (A ++ B)) := List.perm_middle.cons y
  have p3 : (x :: (A ++ y :: B)).Perm (x :: y :: (A ++ B)) := List.perm_middle.cons x
  exact p1.trans (p2.trans ((List.Perm.swap x y _).trans p3.symm))
def Lk : List (List Int) → List Int → Prop
  | [], _ => False
  | [a], z => a = z
  | a :: b :: r, z => NX a b ∧ Lk (b :: r) z
theorem Lk.app : ∀ {l : List (List Int)} {z z' : List Int} {r : List (List Int)} {b : List Int}, Lk l z → NX z b → Lk (b :: r) z' → Lk (l ++ b :: r) z'
  | [], _, _, _, _, h, _, _ => h.elim
  | [a], z, z', r, b, h, h1, h2 => by
    obtain rfl : a = z := h
    exact ⟨h1, h2⟩
  | a :: c :: l, z, z', r, b, h, h1, h2 => ⟨h.1, Lk.app (l := c :: l) h.2 h1 h2⟩
theorem Lk.pre (p : List Int) : ∀ {l : List (List Int)} {z : List Int}, Lk l z → Lk (l.map (p ++ ·)) (p ++ z)
  | [], _, h => h.elim
  | [a], z, h => by
    obtain rfl : a = z := h
    rfl
  | a :: c :: l, z, h => ⟨h.1.pre p, Lk.pre p (l := c :: l) h.2⟩

/-! ### all orders -/
def isNew (M : List Int) (t : Nat) : Bool := decide (t = 0) || (M.getD (t - 1) 0 != M.getD t 0)
def pm : Nat → List Int → List (List Int)
  | 0, _ => [[]]
  | n + 1, M => (List.range M.length).flatMap fun t => cond (isNew M t) ((pm n (wo M t)).map ([M.getD t 0] ++ ·)) []
theorem take_succ' {M : List Int} {k : Nat} (h : k < M.length) : M.take (k + 1) = M.take k ++ [M.getD k 0] := by
  rw [List.take_add_one, List.getD_eq_getElem?_getD, List.getElem?_eq_getElem h]; rfl
theorem wo_asc {M : List Int} (h : Asc M) (k : Nat) : Asc (wo M k) := by
  have : (wo M k).Sublist M := by
    conv => rhs; rw [← List.take_append_drop k M]
    exact List.Sublist.append (List.Sublist.refl _) (by rw [← List.drop_drop]; exact List.drop_sublist 1 _)
  exact h.sublist this
theorem wo_len {M : List Int} {k : Nat} (h : k < M.length) : (wo M k).length + 1 = M.length := by
  simp only [wo, List.length_append, List.length_take, List.length_drop]; omega
theorem split_at {M : List Int} {k : Nat} (h : k < M.length) : M = M.take k ++ M.getD k 0 :: M.drop (k + 1) := by
  conv => lhs; rw [← List.take_append_drop k M, drop_at (d := 0) h]
/-- All orders follow one another, from the ascending to the descending one. -/
theorem pm_ok : ∀ (n : Nat) (M : List Int), M.length = n → Asc M → ∃ T, pm n M = M :: T ∧ Lk (M :: T) M.reverse
  | 0, M, hl, _ => by
    obtain rfl := List.eq_nil_of_length_eq_zero hl
    exact ⟨[], rfl, rfl⟩
  | n + 1, M, hl, ha => by
    let f : Nat → List (List Int) := fun t => cond (isNew M t) ((pm n (wo M t)).map ([M.getD t 0] ++ ·)) []
    have main : ∀ k, k < M.length → ∃ T, (List.range (k + 1)).flatMap f = M :: T ∧ Lk (M :: T) (M.getD k 0 :: (wo M k).reverse) := by
      intro k
      induction k with
      | zero =>
        intro hk
        obtain ⟨T, h1, h2⟩ := pm_ok n (wo M 0) (by have := wo_len hk; omega) (wo_asc ha 0)
        have e : M = [M.getD 0 0] ++ wo M 0 := split_at hk
        refine ⟨T.map ([M.getD 0 0] ++ ·), ?_, ?_⟩
        · have : (List.range (0 + 1)).flatMap f = f 0 := by simp
          rw [this]
          show ((pm n (wo M 0)).map ([M.getD 0 0] ++ ·)) = _
          rw [h1, List.map_cons, ← e]
        · have := Lk.pre [M.getD 0 0] h2
          rw [List.map_cons, ← e] at this
          exact this
      | succ k ih =>
        intro hk
        obtain ⟨T, h1, h2⟩ := ih (by omega)
        have hk0 : k < M.length := by omega
        have e1 : M = M.take k ++ M.getD k 0 :: M.getD (k + 1) 0 :: M.drop (k + 1 + 1) := by
          conv => lhs; rw [split_at hk0, drop_at (d := 0) hk]
        have w1 : wo M k = M.take k ++ M.getD (k + 1) 0 :: M.drop (k + 1 + 1) := by
          simp only [wo]; rw [drop_at (d := 0) hk]
        have w2 : wo M (k + 1) = M.take k ++ M.getD k 0 :: M.drop (k + 1 + 1) := by
          simp only [wo]; rw [take_succ' hk0, List.append_assoc]; rfl
        rw [List.range_succ, List.flatMap_append, h1]
        simp only [List.flatMap_cons, List.flatMap_nil, List.append_nil]
        by_cases e : M.getD k 0 = M.getD (k + 1) 0
        · have hn : isNew M (k + 1) = false := by
            simp only [isNew, Nat.add_sub_cancel, Bool.or_eq_false_iff, bne_eq_false_iff_eq]; exact ⟨decide_eq_false (by omega), e⟩
          refine ⟨T, by show M :: T ++ cond (isNew M (k + 1)) _ [] = _; rw [hn]; simp, ?_⟩
          rw [w2, ← e]; rw [w1, ← e] at h2; exact h2
        · have hn : isNew M (k + 1) = true := by
            simp only [isNew, Nat.add_sub_cancel, Bool.or_eq_true, bne_iff_ne]; exact .inr e
          obtain ⟨T', q1, q2⟩ := pm_ok n (wo M (k + 1)) (by have := wo_len hk; omega) (wo_asc ha _)
          have hf : f (k + 1) = (M.getD (k + 1) 0 :: wo M (k + 1)) :: T'.map ([M.getD (k + 1) 0] ++ ·) := by
            show cond (isNew M (k + 1)) ((pm n (wo M (k + 1))).map ([M.getD (k + 1) 0] ++ ·)) [] = _
            rw [hn, cond_true, q1]; rfl
          rw [hf]
          refine ⟨T ++ (M.getD (k + 1) 0 :: wo M (k + 1)) :: T'.map ([M.getD (k + 1) 0] ++ ·), rfl, ?_⟩
          have q3 := Lk.pre [M.getD (k + 1) 0] q2
          rw [List.map_cons] at q3
          refine Lk.app (l := M :: T) h2 ?_ q3
          -- the link
          rw [e1] at ha
          generalize M.getD k 0 = x at *
          generalize M.getD (k + 1) 0 = y at *
          generalize M.take k = U at *
          generalize M.drop (k + 1 + 1) = V at *
          rw [w1, w2]
          simp only [List.pairwise_append, List.pairwise_cons] at ha
          obtain ⟨a1, ⟨a2, a3, a4⟩, a5⟩ := ha
          have hxy : x ≤ y := a2 y (by simp)
          refine ⟨[], V.reverse, U.reverse, x, y, by simp, ?_, ?_, by omega, ?_, by simp⟩
          · have : V.reverse ++ y :: U.reverse = (U ++ y :: V).reverse := by simp
            rw [this]
            refine List.pairwise_reverse.2 ?_
            simp only [List.pairwise_append, List.pairwise_cons]
            exact ⟨a1, ⟨a3, a4⟩, fun u hu b hb => a5 u hu b (by
              rcases List.mem_cons.1 hb with rfl | hb
              · simp
              · simp [hb])⟩
          · intro a h
            have := a3 a (List.mem_reverse.1 h); omega
          · intro b h
            exact a5 b (List.mem_reverse.1 h) x (by simp)
    obtain ⟨T, h1, h2⟩ := main n (by omega)
    refine ⟨T, by show (List.range M.length).flatMap f = _; rw [hl]; exact h1, ?_⟩
    have e1 : wo M n = M.take n := by simp only [wo]; rw [List.drop_eq_nil_of_le (by omega)]; simp
    have e2 : M.reverse = M.getD n 0 :: (wo M n).reverse := by
      rw [e1]
      have := split_at (M := M) (k := n) (by omega)
      rw [List.drop_eq_nil_of_le (by omega : M.length ≤ n + 1)] at this
      conv => lhs; rw [this]
      simp
    rw [e2]; exact h2

end Go.Proofs.Ytaioadjcdjmkdaa
