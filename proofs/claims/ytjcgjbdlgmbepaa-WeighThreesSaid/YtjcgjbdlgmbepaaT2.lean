/-
  Loads and Reach of both, as plain functions.
-/
import Derived.Test.YtjcgjbdlgmbepaaT1
import Derived.Test.YtjcgjbdlgmbepaaWLM
namespace Go.Proofs.Ytjcgjbdlgmbepaa
open Go.RowKit
set_option linter.unusedVariables false

/-! ### Check -/
def goW : Int → List Int → Int
  | _, [] => 0
  | last, x :: xs => cond (!decide (1 ≤ x ∧ x ≤ 2000)) 3 (cond (decide (x < last)) 7 (goW x xs))
def wE (ws : List Int) : Int := cond (ws.length == 0) 1 (cond (decide (ws.length > 7)) 2 (goW 0 ws))
def B22 (ws : List Int) : Option Int := some (wE ws)
theorem len_beq0 (n : Nat) : ((n : Int) == 0) = (n == 0) := by
  by_cases c : n = 0
  · subst c; rfl
  · rw [show ((n : Int) == 0) = false by rw [beq_eq_false_iff_ne]; omega, show (n == 0) = false by rw [beq_eq_false_iff_ne]; omega]
theorem len_gt (n k : Nat) : decide ((n : Int) > (k : Int)) = decide (n > k) := decide_eq_decide.2 (by omega)
theorem KB22 : FnOk Try.prog 22 (F22 B22) := ok22 B57 KB57 B22 fun ws r h => ⟨1001, by
  rw [← h, B22, m22, wE, len_beq0, show (7 : Int) = ((7 : Nat) : Int) from rfl, len_gt]
  cases e1 : ws.length == 0 with
  | true => rfl
  | false =>
    cases e2 : decide (ws.length > 7) with
    | true => rfl
    | false =>
      have hl : ¬ ws.length > 7 := by simpa using e2
      rw [cond_false, cond_false, cond_false, cond_false]
      exact rangeInd ws 0 (fun n (s : Int) t => l22a B57 1001 ws n s t) (fun xs s => some (goW s xs))
        (fun n s t x rest ht hx ih => by
          simp only [l22a, ixA ht, ixB ht, cond_true, chk_true, Int.toNat_natCast, hx, B57, Option.bind_some, ixW ht (by omega), ih, goW]
          cases decide (1 ≤ x ∧ x ≤ 2000) <;> cases decide (x < s) <;> rfl)
        (fun n s => by simp only [l22a, ixE, cond_false]; rfl) 1001 0 (by omega)⟩
theorem KB23 : FnOk Try.prog 23 (F23 B22) := ok23 B58 KB58 B22 fun ws r h => ⟨1001, by
  rw [← h, B22, m23, wE, len_beq0, show (7 : Int) = ((7 : Nat) : Int) from rfl, len_gt]
  cases e1 : ws.length == 0 with
  | true => rfl
  | false =>
    cases e2 : decide (ws.length > 7) with
    | true => rfl
    | false =>
      have hl : ¬ ws.length > 7 := by simpa using e2
      rw [cond_false, cond_false, cond_false, cond_false]
      have main := rangeIx ws 0 (fun n (_ : Unit) t => l23a B58 1001 ws n t) (fun _ _ _ => True) (fun t xs _ => some (goW (if t = 0 then 0 else ws.getD (t - 1) 0) xs))
        (fun n _ t x rest ht hx _ ih => by
          simp only [l23a, ixA ht, ixB ht, cond_true, chk_true, Int.toNat_natCast, hx, B58, Option.bind_some, ixW ht (by omega), ih () trivial, goW]
          by_cases e : 1 ≤ x ∧ x ≤ 2000
          · rw [decide_eq_true e, Bool.not_true, cond_false, cond_false, if_neg (show ¬ t + 1 = 0 by omega), show t + 1 - 1 = t by omega, hx]
            by_cases e0 : t = 0
            · subst e0
              rw [show decide (((0 : Nat) : Int) > 0) = false from rfl, cond_false, if_pos rfl, decide_eq_false (show ¬ x < 0 by omega), cond_false]
            · have e1 : decide ((t : Int) > 0) = true := decide_eq_true (by omega)
              have e2 : w64 ((t : Int) - 1) = ((t - 1 : Nat) : Int) := by rw [w64_small (by omega)]; omega
              rw [e1, cond_true, if_neg e0, e2, Int.toNat_natCast, ixB (show t - 1 < ws.length by omega), chk_true]
              cases decide (x < ws.getD (t - 1) 0) <;> rfl
          · rw [decide_eq_false e, Bool.not_false, cond_true, cond_true])
        (fun n _ _ => by simp only [l23a, ixE, cond_false]; rfl) 1001 () (by omega) trivial
      simpa using main⟩
theorem goW_zero : ∀ {ws : List Int} {last : Int}, goW last ws = 0 → (∀ w ∈ ws, 1 ≤ w ∧ w ≤ 2000) ∧ ws.Pairwise (· ≤ ·) ∧ ∀ w ∈ ws, last ≤ w
  | [], _, _ => by simp
  | x :: xs, last, h => by
    rw [goW] at h
    by_cases e : 1 ≤ x ∧ x ≤ 2000
    · rw [decide_eq_true e, Bool.not_true, cond_false] at h
      by_cases e2 : x < last
      · rw [decide_eq_true e2] at h; simp at h
      · rw [decide_eq_false e2, cond_false] at h
        obtain ⟨a, b, c⟩ := goW_zero h
        refine ⟨fun w hw => ?_, List.pairwise_cons.2 ⟨c, b⟩, fun w hw => ?_⟩
        · rcases List.mem_cons.1 hw with rfl | hw
          · exact e
          · exact a w hw
        · rcases List.mem_cons.1 hw with rfl | hw
          · omega
          · have := c w hw; omega
    · rw [decide_eq_false e] at h; simp at h
theorem wE_zero {ws : List Int} (h : wE ws = 0) : (1 ≤ ws.length ∧ ws.length ≤ 7) ∧ Pos ws ∧ ws.Pairwise (· ≤ ·) := by
  unfold wE at h
  cases e1 : ws.length == 0 with
  | true => rw [e1] at h; simp at h
  | false =>
    cases e2 : decide (ws.length > 7) with
    | true => rw [e1, e2] at h; simp at h
    | false =>
      rw [e1, e2, cond_false, cond_false] at h
      obtain ⟨a, b, _⟩ := goW_zero h
      have h1 : ws.length ≠ 0 := by simpa using e1
      have h2 : ¬ ws.length > 7 := by simpa using e2
      exact ⟨by omega, a, b⟩
theorem goW_of : ∀ {ws : List Int} {last : Int}, (∀ w ∈ ws, 1 ≤ w ∧ w ≤ 2000) → ws.Pairwise (· ≤ ·) → (∀ w ∈ ws, last ≤ w) → goW last ws = 0
  | [], _, _, _, _ => rfl
  | x :: xs, last, h1, h2, h3 => by
    obtain ⟨a, b⟩ := List.pairwise_cons.1 h2
    rw [goW, decide_eq_true (h1 x (List.mem_cons_self ..)), Bool.not_true, cond_false, decide_eq_false (by have := h3 x (List.mem_cons_self ..); omega), cond_false]
    exact goW_of (fun w hw => h1 w (List.mem_cons_of_mem _ hw)) b a
theorem wE_of {ws : List Int} (h1 : 1 ≤ ws.length ∧ ws.length ≤ 7) (h2 : Pos ws) (h3 : ws.Pairwise (· ≤ ·)) : wE ws = 0 := by
  unfold wE
  rw [show (ws.length == 0) = false by rw [beq_eq_false_iff_ne]; omega, decide_eq_false (by omega), cond_false, cond_false]
  exact goW_of h2 h3 fun w hw => by have := h2 w hw; omega
theorem Pos.nonneg {ws : List Int} (h : Pos ws) : ∀ w ∈ ws, 0 ≤ w := fun w hw => by have := h w hw; omega
theorem Pos.sum {ws : List Int} (h : Pos ws) : 0 ≤ ws.sum ∧ ws.sum ≤ 2000 * (ws.length : Int) := by
  induction ws with
  | nil => simp
  | cons w ws ih =>
    have a := h w (List.mem_cons_self ..)
    have b := ih fun v hv => h v (List.mem_cons_of_mem _ hv)
    rw [List.sum_cons, List.length_cons]; omega

/-! ### sums -/
def B55 (ws : List Int) : Option (List Int) := if wE ws = 0 then some (sumS ws) else none
theorem A78_ne {l : List Int} (h : l ≠ []) : A78 l = some (Go.Lib.compact l) := by
  cases l with
  | nil => exact absurd rfl h
  | cons x xs => rfl
theorem KB55 : FnOk Try.prog 55 (F55 B55) := ok55 A77 A78 ok77 ok78 B55 fun ws r h => ⟨20000, by
  simp only [B55] at h
  split at h
  · rename_i hw
    obtain ⟨hl, hp, _⟩ := wE_zero hw
    rw [← h, m55]
    exact rangeInv ws 0 (fun n (o : List Int) t => l55a A77 A78 20000 ws n o t) (fun xs o => o.length * 3 ^ xs.length ≤ 2187 ∧ o ≠ [] ∧ ∀ x ∈ o, -14000 ≤ x - 2000 * (xs.length : Int) ∧ x + 2000 * (xs.length : Int) ≤ 14000) (fun xs o => some (xs.foldl stepS o))
      (fun n o t w rest ht hx hI ih => by
        obtain ⟨i1, i2, i3⟩ := hI
        have hw1 := hp w (getD_mem ht hx)
        simp only [List.length_cons] at i1 i3
        have i1' : o.length ≤ 2187 := Nat.le_trans (Nat.le_mul_of_pos_right _ (Nat.pow_pos (by omega))) i1
        simp only [l55a, ixA ht, ixB ht, cond_true, chk_true]
        have inner := rangeInv o 0 (fun m (q : List Int) k => l55b A77 A78 20000 ws o (t : Int) (fun y0 y1 => l55a A77 A78 20000 ws n y0 y1) m k q) (fun xs q => q.length + 3 * xs.length ≤ 6561 ∧ ∀ x ∈ xs, x ∈ o)
          (fun xs q => (A77 (q ++ xs.flatMap fun n => [n - w, n, n + w])).bind fun r1 => (A78 r1).bind fun r2 => l55a A77 A78 20000 ws n r2 (w64 ((t : Int) + 1)))
          (fun m q k x ys hk hy hJ ih' => by
            obtain ⟨j1, j2⟩ := hJ
            simp only [List.length_cons] at j1
            have hb := i3 x (j2 x (List.mem_cons_self ..))
            have hs : small (q.length + 3) 8 = true := small_of (by omega) (by omega)
            simp only [l55b, ixA hk, ixB hk, cond_true, chk_true, Int.toNat_natCast, hx, hy, hs, ixW hk (by omega), w64_small (show -4611686018427387904 ≤ x - w ∧ x - w ≤ 4611686018427387904 by omega), w64_small (show -4611686018427387904 ≤ x + w ∧ x + w ≤ 4611686018427387904 by omega)]
            rw [ih' _ ⟨by simp; omega, fun y hy' => j2 y (List.mem_cons_of_mem _ hy')⟩, List.flatMap_cons, ← List.append_assoc])
          (fun m q _ => by simp only [l55b, ixE, cond_false, List.flatMap_nil, List.append_nil]) 20000 [] (by omega) ⟨by simp; omega, fun x hx' => hx'⟩
        refine Eq.trans inner ?_
        have hlen : (o.flatMap fun n => [n - w, n, n + w]).length = 3 * o.length := by
          rw [List.length_flatMap]
          generalize o = l
          induction l with
          | nil => rfl
          | cons x xs ih => rw [List.map_cons, List.sum_cons, ih, List.length_cons]; simp; omega
        have hne : srt (o.flatMap fun n => [n - w, n, n + w]) ≠ [] := by
          intro e
          have q := congrArg List.length e
          rw [(srt_perm _).length_eq, hlen, List.length_nil] at q
          have : o.length ≠ 0 := fun z => i2 (List.length_eq_zero_iff.1 z)
          omega
        rw [List.nil_append, A77, if_pos (by omega), Option.bind_some, A78_ne hne, Option.bind_some, ixW ht (by omega)]
        refine ih (stepS o w) ⟨?_, ?_, fun x hx' => ?_⟩
        · refine Nat.le_trans (Nat.mul_le_mul_right _ (stepS_len o w)) ?_
          rw [Nat.mul_comm 3, Nat.mul_assoc, ← Nat.pow_succ']; exact i1
        · intro e
          cases o with
          | nil => exact i2 rfl
          | cons y ys =>
            have : y ∈ stepS (y :: ys) w := mem_stepS.2 ⟨y, List.mem_cons_self .., .inr (.inl rfl)⟩
            rw [e] at this; cases this
        · obtain ⟨m, hm, e⟩ := mem_stepS.1 hx'
          have := i3 m hm
          omega)
      (fun n o _ => by simp only [l55a, ixE, cond_false, List.foldl_nil]) 20000 [0] (by omega) ⟨by
        rw [List.length_singleton, Nat.one_mul]
        exact Nat.le_trans (Nat.pow_le_pow_right (by omega) hl.2) (by decide), by simp, fun x hx => by simp at hx; subst hx; omega⟩
  · cases h⟩

/-! ### Loads -/
def loadsS (ws : List Int) : List Int × Int := cond (wE ws == 0) (posL ws, 0) ([], wE ws)
def B17 (ws : List Int) : Option (List Int × Int) := some (loadsS ws)
theorem posL_len {ws : List Int} (h : wE ws = 0) : (posL ws).length ≤ 2187 := by
  obtain ⟨hl, hp, _⟩ := wE_zero h
  have a := sumS_len ws [0]
  have b : (posL ws).length ≤ (sumS ws).length := List.length_filter_le ..
  have c : 3 ^ ws.length ≤ 3 ^ 7 := Nat.pow_le_pow_right (by omega) hl.2
  unfold sumS at b
  simp at a
  omega
theorem KB17 : FnOk Try.prog 17 (F17 B17) := ok17 B22 B55 KB22 KB55 B17 fun ws r h => ⟨0, by
  rw [← h, m17, B22, Option.bind_some, B17, loadsS]
  cases e : wE ws == 0 with
  | false => simp only [bne, e, Bool.not_false, cond_true, cond_false]
  | true =>
    have h0 : wE ws = 0 := by simpa using e
    obtain ⟨a, b⟩ := half ws
    have hl := posL_len h0
    simp only [bne, e, Bool.not_true, cond_true, cond_false, B55, if_pos h0, Option.bind_some]
    have e1 : Int.tdiv ((sumS ws).length : Int) 2 = ((posL ws).length : Int) := by
      rw [a, Int.tdiv_eq_ediv_of_nonneg (by omega)]; omega
    rw [e1, w64_small (x := ((posL ws).length : Int)) (by omega), w64_succ (by omega), Int.toNat_natCast, chk_dec (by omega), b]⟩

/-! ### Reach -/
def rl : Int → List Int → Int
  | n, [] => n
  | n, x :: xs => cond (x == n + 1) (rl (n + 1) xs) n
def reachS (ws : List Int) : Int × Int := cond (wE ws == 0) (rl 0 (posL ws), 0) (0, wE ws)
def B19 (ws : List Int) : Option (Int × Int) := some (reachS ws)
theorem KB19 : FnOk Try.prog 19 (F19 B19) := ok19 B17 KB17 B19 fun ws r h => ⟨20000, by
  rw [← h, m19, B17, Option.bind_some, B19, loadsS, reachS]
  cases e : wE ws == 0 with
  | false => simp only [bne, e, Bool.not_false, cond_true, cond_false]
  | true =>
    have h0 : wE ws = 0 := by simpa using e
    have hl := posL_len h0
    rw [cond_true, cond_true, show ((posL ws, (0 : Int)).2 != 0) = false from rfl, cond_false]
    exact rangeIx (posL ws) 0 (fun n (_ : Unit) t => l19a B17 20000 (posL ws, 0) n t) (fun _ _ _ => True) (fun t xs _ => some (rl t xs, 0))
      (fun n _ t x rest ht hx _ ih => by
        have hw : w64 ((t : Int) + 1) = ((t + 1 : Nat) : Int) := w64_succ (by omega)
        simp only [l19a, ixA ht, ixB ht, cond_true, chk_true, Int.toNat_natCast, hx, hw, ih () trivial, rl]
        rw [show ((t + 1 : Nat) : Int) = (t : Int) + 1 by omega]
        cases x == (t : Int) + 1 <;> rfl)
      (fun n _ _ => by simp only [l19a, ixE, cond_false]; rfl) 20000 () (by omega) trivial⟩
end Go.Proofs.Ytjcgjbdlgmbepaa
