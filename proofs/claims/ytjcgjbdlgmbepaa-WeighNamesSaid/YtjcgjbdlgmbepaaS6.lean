/-
  What the weights of all stones say.
-/
import Derived.Test.YtjcgjbdlgmbepaaS3
import Derived.Test.YtjcgjbdlgmbepaaWSM
namespace Go.Proofs.Ytjcgjbdlgmbepaa
open Go.RowKit
set_option linter.unusedVariables false

/-- The sum of what is at some places. -/
def sumAt (M : List Int) : List Int → Int
  | [] => 0
  | x :: xs => M.getD x.toNat 0 + sumAt M xs
theorem panE_lt {st : Int} {o : List Int} : ∀ {xs : List Int} {last : Int}, panE st o last xs = 0 → (∀ x ∈ xs, last < x ∧ 0 ≤ x ∧ x ≤ st - 1)
  | [], _, _, x, hx => by cases hx
  | y :: ys, last, h, x, hx => by
    by_cases a : 0 ≤ y ∧ y ≤ st - 1
    · by_cases b : y ≤ last
      · rw [panE_7 a b] at h; omega
      · cases c : o.contains y with
        | true => rw [panE_6 a b c] at h; omega
        | false =>
          rw [panE_go a b c] at h
          rcases List.mem_cons.1 hx with rfl | hx'
          · omega
          · have := panE_lt h x hx'
            omega
    · rw [panE_5 a] at h; omega
theorem panE_tail {st : Int} {o : List Int} {y : Int} {ys : List Int} {last : Int} (h : panE st o last (y :: ys) = 0) : panE st o y ys = 0 ∧ last < y ∧ 0 ≤ y ∧ y ≤ st - 1 := by
  by_cases a : 0 ≤ y ∧ y ≤ st - 1
  · by_cases b : y ≤ last
    · rw [panE_7 a b] at h; omega
    · cases c : o.contains y with
      | true => rw [panE_6 a b c] at h; omega
      | false => rw [panE_go a b c] at h; exact ⟨h, by omega, a⟩
  · rw [panE_5 a] at h; omega
/-- The stones' weights. -/
def massL (n odd way : Int) : List Int := (List.replicate n.toNat 10).set odd.toNat (10 + way)
theorem mass_get {n odd way x : Int} (h : 0 ≤ x ∧ x ≤ n - 1) (ho : 0 ≤ odd) : (massL n odd way).getD x.toNat 0 = 10 + way * ind (x == odd) := by
  rw [massL, List.getD_eq_getElem?_getD, List.getElem?_set]
  by_cases e : x = odd
  · subst e
    rw [if_pos rfl, if_pos (by simp; omega)]; simp [ind]
  · rw [if_neg (by omega), List.getElem?_replicate, if_pos (by omega), beq_false_of_ne e]; simp [ind]
theorem mass_len {n odd way : Int} : (massL n odd way).length = n.toNat := by simp [massL]
theorem ind_or {a b : Bool} (h : ¬ (a = true ∧ b = true)) : ind (a || b) = ind a + ind b := by
  cases a <;> cases b <;> simp_all [ind]
theorem sumAt_pan {st odd way : Int} {o : List Int} (ho : 0 ≤ odd) : ∀ {xs : List Int} {last : Int}, panE st o last xs = 0 → sumAt (massL st odd way) xs = 10 * (xs.length : Int) + way * ind (xs.contains odd)
  | [], last, _ => by simp [sumAt, ind]
  | y :: ys, last, h => by
    obtain ⟨h1, h2, h3⟩ := panE_tail h
    rw [sumAt, mass_get h3 ho, sumAt_pan ho h1, List.contains_cons]
    have hne : ¬ ((odd == y) = true ∧ ys.contains odd = true) := by
      intro ⟨a, b⟩
      have a' : odd = y := by simpa using a
      rw [List.contains_iff_mem] at b
      have := panE_lt h1 odd b
      omega
    rw [ind_or hne, show (y == odd) = (odd == y) by rw [BEq.comm], Int.mul_add, List.length_cons]
    omega
theorem sgn3 {a b v : Int} (h : (b < a ∧ v = -1) ∨ (a < b ∧ v = 1) ∨ (a = b ∧ v = 0)) : cond (decide (a > b)) (-1) (cond (decide (a < b)) 1 0) = v := by
  rcases h with ⟨h, rfl⟩ | ⟨h, rfl⟩ | ⟨rfl, rfl⟩
  · rw [decide_eq_true (show a > b from h)]; rfl
  · rw [decide_eq_false (show ¬ a > b by omega), decide_eq_true h]; rfl
  · have e : decide (a < a) = false := decide_eq_false (by omega)
    show cond (decide (a < a)) (-1) (cond (decide (a < a)) 1 0) = 0
    rw [e]; rfl
theorem shR_of {st odd way : Int} {w : Wg} (h : wgE st w = 0) (hw : -1 ≤ way ∧ way ≤ 1) (ho : 0 ≤ odd) :
    cond (decide (sumAt (massL st odd way) w.1 > sumAt (massL st odd way) w.2.1)) (-1) (cond (decide (sumAt (massL st odd way) w.1 < sumAt (massL st odd way) w.2.1)) 1 0) = shR odd way w := by
  obtain ⟨_, hl, h1, h2⟩ := wgE_zero h
  rw [sumAt_pan ho h1, sumAt_pan ho h2, hl, shR]
  have hd := panE_zero h2
  have hw' : way = -1 ∨ way = 0 ∨ way = 1 := by omega
  refine sgn3 ?_
  cases c2 : w.2.1.contains odd with
  | true =>
    have c1 : w.1.contains odd = false := hd odd (by rwa [List.contains_iff_mem] at c2)
    rw [c1]
    rcases hw' with rfl | rfl | rfl <;> (simp only [ind, cond_true, cond_false]; first | exact Or.inl ⟨by first | trivial | rfl | omega, by first | trivial | rfl | omega⟩ | exact Or.inr (Or.inl ⟨by first | trivial | rfl | omega, by first | trivial | rfl | omega⟩) | exact Or.inr (Or.inr ⟨by first | trivial | rfl | omega, by first | trivial | rfl | omega⟩))
  | false =>
    cases c1 : w.1.contains odd with
    | true => rcases hw' with rfl | rfl | rfl <;> (simp only [ind, cond_true, cond_false]; first | exact Or.inl ⟨by first | trivial | rfl | omega, by first | trivial | rfl | omega⟩ | exact Or.inr (Or.inl ⟨by first | trivial | rfl | omega, by first | trivial | rfl | omega⟩) | exact Or.inr (Or.inr ⟨by first | trivial | rfl | omega, by first | trivial | rfl | omega⟩))
    | false => simp only [ind, cond_false]; exact Or.inr (Or.inr ⟨by first | trivial | rfl | omega, by first | trivial | rfl | omega⟩)

/-- Plans that are valid but for their number. -/
def good (n : Int) (p : List Wg) (odd way : Int) : Prop := fair p ∧ (1 ≤ n ∧ n ≤ 13) ∧ (0 ≤ odd ∧ odd ≤ n - 1) ∧ (-1 ≤ way ∧ way ≤ 1) ∧ ∀ w ∈ p, wgE n w = 0
instance (n : Int) (p : List Wg) (odd way : Int) : Decidable (good n p odd way) := inferInstanceAs (Decidable (_ ∧ _))
def B49 (n : Int) (p : List Wg) (odd way : Int) : Option (List Int) := if good n p odd way then some (p.map (shR odd way)) else none
theorem sumAt_bound {n odd way : Int} (hw : -1 ≤ way ∧ way ≤ 1) (ho : 0 ≤ odd) : ∀ {xs : List Int}, (∀ x ∈ xs, 0 ≤ x ∧ x ≤ n - 1) → 0 ≤ sumAt (massL n odd way) xs ∧ sumAt (massL n odd way) xs ≤ 11 * (xs.length : Int)
  | [], _ => by simp [sumAt]
  | x :: xs, h => by
    have a := h x (List.mem_cons_self ..)
    have b := sumAt_bound hw ho (xs := xs) fun y hy => h y (List.mem_cons_of_mem _ hy)
    rw [sumAt, mass_get a ho, List.length_cons]
    have : 0 ≤ ind (x == odd) ∧ ind (x == odd) ≤ 1 := by cases x == odd <;> simp [ind]
    have hw' : way = -1 ∨ way = 0 ∨ way = 1 := by omega
    rcases hw' with rfl | rfl | rfl <;> omega
theorem KB49 : FnOk Try.prog 49 (F49 B49) := ok49 B49 fun n p odd way r h => ⟨1001, by
  simp only [B49] at h
  split at h
  · rename_i hg
    obtain ⟨⟨hl, hm⟩, hn, ho, hw, hv⟩ := hg
    rw [← h, m49]
    have hmk : mkOk n n 8 = true := by rw [show n = ((n.toNat : Nat) : Int) by omega]; exact mkOk_of (by omega) (by omega)
    rw [hmk, chk_true]
    -- all ten
    have fill := countUp 0 n (by omega) (fun m (M : List Int) t => l49a 1001 n p odd way m t M) (fun t M => M = List.replicate t.toNat 10 ++ List.replicate (n - t).toNat 0) (fun t M => l49b 1001 p odd way (List.replicate n.toNat 10) 1001 0 [])
      (fun m M t h0 h1 hI ih => by
        have hlen : M.length = n.toNat := by rw [hI]; simp; omega
        obtain ⟨k, rfl⟩ : ∃ k : Nat, t = (k : Int) := ⟨t.toNat, by omega⟩
        have hk : k < n.toNat := by omega
        have e1 : (n.toNat : Int) = n := by omega
        simp only [l49a, List.length_replicate, ixA hk, cond_true, hlen, ixB hk, chk_true, ixW hk (by omega), Int.toNat_natCast]
        refine ih _ ?_
        rw [hI, Int.toNat_natCast, List.set_append_right _ _ (by simp), List.length_replicate, Nat.sub_self]
        rw [show (n - (k : Int)).toNat = (n - ((k : Int) + 1)).toNat + 1 by omega, List.replicate_succ, List.set_cons_zero, show ((k : Int) + 1).toNat = k + 1 by omega, List.replicate_succ']
        simp)
      (fun m M hI => by
        have hM : M = List.replicate n.toNat 10 := by rw [hI]; simp
        have e1 : decide (n < ((List.replicate n.toNat (0 : Int)).length : Int)) = false := decide_eq_false (by simp; omega)
        have e2 : decide (0 ≤ odd ∧ odd < ((List.replicate n.toNat (10 : Int)).length : Int)) = true := decide_eq_true (by simp; omega)
        simp only [l49a, e1, cond_false, hM, e2, chk_true]) 1001 (List.replicate n.toNat 0) (by omega) (by simp)
    refine Eq.trans fill ?_
    have hset : (List.replicate n.toNat (10 : Int)).set odd.toNat (w64 ((List.replicate n.toNat (10 : Int)).getD odd.toNat 0 + way)) = massL n odd way := by
      rw [massL, List.getD_eq_getElem?_getD, List.getElem?_replicate, if_pos (by omega)]
      rw [Option.getD_some, w64_small (by omega)]
    have main := rangeInv p ([], ([], ())) (fun m (o : List Int) t => l49b 1001 p odd way (List.replicate n.toNat 10) m t o) (fun xs o => o.length + xs.length ≤ 1000 ∧ ∀ w ∈ xs, w ∈ p) (fun xs o => some (o ++ xs.map (shR odd way)))
      (fun m o t x rest ht hx hI ih => by
        obtain ⟨hI1, hI2⟩ := hI
        simp only [List.length_cons] at hI1
        have hxp : x ∈ p := hI2 x (List.mem_cons_self ..)
        have hxl := hm x hxp
        have hz := wgE_zero (hv x hxp)
        have r1 : ∀ y ∈ x.1, 0 ≤ y ∧ y ≤ n - 1 := fun y hy => (panE_lt hz.2.2.1 y hy).2
        have r2 : ∀ y ∈ x.2.1, 0 ≤ y ∧ y ≤ n - 1 := fun y hy => (panE_lt hz.2.2.2 y hy).2
        simp only [l49b, ixA ht, ixB ht, cond_true, chk_true]
        have hs : small (o.length + 1) 8 = true := small_of (by omega) (by omega)
        have right : ∀ (rec : Int → List Int → Option Int → Option (List Int)) (left : Int) (rc : Int → List Int → Option (List Int)), l49d 1001 p odd way (List.replicate n.toNat 10) (t : Int) o left rc 1001 0 0 =
            cond (decide (left > sumAt (massL n odd way) x.2.1)) (rc ((t + 1 : Nat) : Int) (o ++ [-1])) (cond (decide (left < sumAt (massL n odd way) x.2.1)) (rc ((t + 1 : Nat) : Int) (o ++ [1])) (rc ((t + 1 : Nat) : Int) (o ++ [0]))) := by
          intro _ left rc
          have := rangeInv x.2.1 0 (fun m (s : Int) t' => l49d 1001 p odd way (List.replicate n.toNat 10) (t : Int) o left rc m s t') (fun xs s => (∀ y ∈ xs, 0 ≤ y ∧ y ≤ n - 1) ∧ 0 ≤ s ∧ s + 11 * (xs.length : Int) ≤ 11000)
            (fun xs s => cond (decide (left > s + sumAt (massL n odd way) xs)) (rc ((t + 1 : Nat) : Int) (o ++ [-1])) (cond (decide (left < s + sumAt (massL n odd way) xs)) (rc ((t + 1 : Nat) : Int) (o ++ [1])) (rc ((t + 1 : Nat) : Int) (o ++ [0]))))
            (fun m s t' y ys ht' hy hJ ih' => by
              obtain ⟨j1, j2, j3⟩ := hJ
              simp only [List.length_cons] at j3
              have hy1 := j1 y (List.mem_cons_self ..)
              have hb : decide (0 ≤ y ∧ y < ((massL n odd way).length : Int)) = true := decide_eq_true (by rw [mass_len]; omega)
              have hg := sumAt_bound (n := n) (odd := odd) (way := way) hw ho.1 (xs := [y]) (by intro z hz'; simp at hz'; subst hz'; exact hy1)
              simp only [sumAt, List.length_cons, List.length_nil] at hg
              simp only [l49d, Int.toNat_natCast, hx, ixA ht', ixB ht', cond_true, chk_true, hset, hy, hb, ixW ht' (by omega)]
              rw [w64_small (by omega), ih' _ ⟨fun z hz' => j1 z (List.mem_cons_of_mem _ hz'), by omega, by omega⟩]
              rw [sumAt, Int.add_assoc])
            (fun m s _ => by
              simp only [l49d, Int.toNat_natCast, hx, ixE, cond_false, hs, chk_true, sumAt, Int.add_zero, ixW ht (by omega)]) 1001 0 (by omega) ⟨r2, by omega, by omega⟩
          simp only [Int.zero_add] at this
          exact this
        have left : ∀ (rc : Int → List Int → Option (List Int)), l49c 1001 p odd way (List.replicate n.toNat 10) (t : Int) o rc 1001 0 0 =
            l49d 1001 p odd way (List.replicate n.toNat 10) (t : Int) o (sumAt (massL n odd way) x.1) rc 1001 0 0 := by
          intro rc
          have := rangeInv x.1 0 (fun m (s : Int) t' => l49c 1001 p odd way (List.replicate n.toNat 10) (t : Int) o rc m s t') (fun xs s => (∀ y ∈ xs, 0 ≤ y ∧ y ≤ n - 1) ∧ 0 ≤ s ∧ s + 11 * (xs.length : Int) ≤ 11000)
            (fun xs s => l49d 1001 p odd way (List.replicate n.toNat 10) (t : Int) o (s + sumAt (massL n odd way) xs) rc 1001 0 0)
            (fun m s t' y ys ht' hy hJ ih' => by
              obtain ⟨j1, j2, j3⟩ := hJ
              simp only [List.length_cons] at j3
              have hy1 := j1 y (List.mem_cons_self ..)
              have hb : decide (0 ≤ y ∧ y < ((massL n odd way).length : Int)) = true := decide_eq_true (by rw [mass_len]; omega)
              have hg := sumAt_bound (n := n) (odd := odd) (way := way) hw ho.1 (xs := [y]) (by intro z hz'; simp at hz'; subst hz'; exact hy1)
              simp only [sumAt, List.length_cons, List.length_nil] at hg
              simp only [l49c, Int.toNat_natCast, hx, ixA ht', ixB ht', cond_true, chk_true, hset, hy, hb, ixW ht' (by omega)]
              rw [w64_small (by omega), ih' _ ⟨fun z hz' => j1 z (List.mem_cons_of_mem _ hz'), by omega, by omega⟩]
              rw [sumAt, Int.add_assoc])
            (fun m s _ => by
              simp only [l49c, Int.toNat_natCast, hx, ixE, cond_false, sumAt, Int.add_zero]) 1001 0 (by omega) ⟨r1, by omega, by omega⟩
          simp only [Int.zero_add] at this
          exact this
        rw [left, right (fun _ _ _ => none)]
        have key := shR_of (hv x hxp) hw ho.1
        have hin : ∀ v : Int, (o ++ [v]).length + rest.length ≤ 1000 ∧ ∀ w ∈ rest, w ∈ p := fun v => ⟨by simp; omega, fun w hw' => hI2 w (List.mem_cons_of_mem _ hw')⟩
        simp only [ih _ (hin _), List.map_cons]
        rw [← key]
        cases decide (sumAt (massL n odd way) x.1 > sumAt (massL n odd way) x.2.1) <;> cases decide (sumAt (massL n odd way) x.1 < sumAt (massL n odd way) x.2.1) <;> simp)
      (fun m o _ => by simp only [l49b, ixE, cond_false, List.map_nil, List.append_nil]) 1001 [] (by omega) ⟨by simpa using hl, fun w hw' => hw'⟩
    simpa using main
  · cases h⟩
end Go.Proofs.Ytjcgjbdlgmbepaa
